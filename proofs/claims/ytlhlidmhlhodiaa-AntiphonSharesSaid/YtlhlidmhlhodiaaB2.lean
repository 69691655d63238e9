/-
  Texts of this proof, laid together (part 2 of 7).
-/
import Derived.Test.YtlhlidmhlhodiaaB1
import Derived.ProofKit
import Derived.OpenShut
import Derived.Deep.Slices
import Derived.Deep.Fields
import Derived.ChangeSame
import Derived.Lib.ConvBytes
import Derived.Lib.AppendStr
import Derived.Lib.UnsafeStr
import Derived.Lib.Builder
import Derived.Laws.BytesString
import Derived.Laws.Externs
import Derived.Laws.StructEq
import Derived.MapKept
import Derived.Carry
/-
  Sparse frames: slices (read, stored into, appended to, cut, made). No program in sight.
-/
namespace Go.Proofs.Ytlhlidmhlhodiaa
set_option linter.unusedSimpArgs false
set_option linter.unusedVariables false
open Go.RowKit

theorem flat_inv {sz : Nat} : ∀ {xs : List (List Value)} {m : Nat} {u : Value}, (∀ r ∈ xs, r.length = sz) → xs.flatten[m]? = some u → ∃ i j row, m = i * sz + j ∧ xs[i]? = some row ∧ row[j]? = some u
  | [], _, _, _, h => by simp at h
  | x :: xs, m, u, hl, h => by
    have hx := hl x (.head _)
    rcases Nat.lt_or_ge m x.length with hlt | hge
    · rw [List.flatten_cons, List.getElem?_append_left hlt] at h
      exact ⟨0, m, x, by simp, rfl, h⟩
    · rw [List.flatten_cons, List.getElem?_append_right hge] at h
      obtain ⟨i, j, row, h1, h2, h3⟩ := flat_inv (fun r hr => hl r (.tail _ hr)) h
      exact ⟨i + 1, j, row, by rw [Nat.add_mul]; omega, by simpa using h2, h3⟩
def SegR (cur : Array Value) (o sz : Nat) (xs : List (List Value)) : Prop := ∀ i row, xs[i]? = some row → ∀ j u, row[j]? = some u → cur[o + (i * sz + j)]? = some u
theorem seg_iff {cur : Array Value} {o sz : Nat} {xs : List (List Value)} (hl : ∀ r ∈ xs, r.length = sz) : SegIn cur o xs ↔ SegR cur o sz xs := by
  constructor
  · intro h i row hi j u hj
    exact h _ _ (flat_at hl hi hj)
  · intro h m u hm
    obtain ⟨i, j, row, rfl, h2, h3⟩ := flat_inv hl hm
    exact h i row h2 j u h3
theorem lay_get {l r : List Value} {o j : Nat} (ho : o + r.length ≤ l.length) : (l.take o ++ r ++ l.drop (o + r.length))[j]? = if j < o then l[j]? else if j < o + r.length then r[j - o]? else l[j]? := by
  have h1 : (l.take o).length = o := by simp; omega
  split
  · rename_i h
    rw [List.append_assoc, List.getElem?_append_left (by omega), List.getElem?_take, if_pos h]
  · rename_i h
    split
    · rename_i h2
      rw [List.getElem?_append_left (by simp; omega), List.getElem?_append_right (by omega), h1]
    · rename_i h2
      rw [List.getElem?_append_right (by simp; omega)]
      simp only [List.length_append, h1, List.getElem?_drop]
      congr 1; omega

theorem cells_stored {w w' : World} {t : TypeId} {sz o n c b : Nat} {xs : List (List Value)} {cur : Array Value} {i j : Nat} {row row' r : List Value} (hS : OwnSat w t sz (some ⟨b, o, none⟩) n c xs) (hcur : w.heap[b]? = some (.cells cur t (0, 0)))
    (hi : xs[i]? = some row) (hl : LayAt row j r row') (h1 : ∀ v ∈ r, v.oneCell' = true)
    (h' : w'.heap[b]? = some (.cells (cur.toList.take (elt o i sz + j) ++ r ++ cur.toList.drop (elt o i sz + j + r.length)).toArray t (0, 0))) (hfit : elt o i sz + j + r.length ≤ cur.size) :
    OwnSat w' t sz (some ⟨b, o, none⟩) n c (xs.set i row') := by
  obtain ⟨_, cur0, hc0, hsz, hseg⟩ := hS.at_ _ rfl
  simp only at hc0 hsz hseg
  have he : cur0 = cur := by rw [hcur] at hc0; injection hc0 with hc0; injection hc0 with hc0; exact hc0.symm
  subst he
  obtain ⟨hl1, hl2⟩ := hl.spec
  have hrow : row.length = sz := hS.rows.lens row (List.mem_of_getElem? hi)
  have hrow' : row'.length = sz := by rw [hl2]; simp; omega
  have hone : ∀ u ∈ row', u.oneCell' = true := by
    intro u hu
    rw [hl2] at hu
    rcases List.mem_append.1 hu with hu | hu
    · rcases List.mem_append.1 hu with hu | hu
      · exact (hS.rows row (List.mem_of_getElem? hi)).2 u (List.mem_of_mem_take hu)
      · exact h1 u hu
    · exact (hS.rows row (List.mem_of_getElem? hi)).2 u (List.mem_of_mem_drop hu)
  have hrows : RowsOk sz (xs.set i row') := by
    intro r0 hr0
    rcases List.mem_or_eq_of_mem_set hr0 with h | h
    · exact hS.rows r0 h
    · subst h; exact ⟨hrow', hone⟩
  refine ⟨by simp [hS.len], hrows, hS.le, hS.max, (fun h => by cases h), fun a ha => ?_⟩
  simp only [Option.some.injEq] at ha
  subst ha
  refine ⟨rfl, _, h', by simp; omega, (seg_iff hrows.lens).2 (show SegR _ o sz _ from ?_)⟩
  have hR := (seg_iff hS.rows.lens).1 hseg
  intro i' row0 hi' j' u hj'
  have hfit' : elt o i sz + j + r.length ≤ cur0.toList.length := by simpa using hfit
  have hjlt : j' < sz := by
    have := (List.getElem?_eq_some_iff.1 hj').1
    rw [hrows.lens row0 (List.mem_of_getElem? hi')] at this; exact this
  rw [List.getElem?_toArray, lay_get hfit']
  unfold elt
  by_cases hii : i' = i
  · subst hii
    have hilt : i' < xs.length := (List.getElem?_eq_some_iff.1 hi).1
    rw [List.getElem?_set_self hilt] at hi'
    simp only [Option.some.injEq] at hi'
    subst hi'
    rw [hl2, lay_get hl1] at hj'
    by_cases h2 : j' < j
    · rw [if_pos h2] at hj'
      rw [if_pos (by omega)]
      simpa using hR i' row hi j' u hj'
    · rw [if_neg h2] at hj'
      rw [if_neg (by omega)]
      by_cases h3 : j' < j + r.length
      · rw [if_pos h3] at hj'
        rw [if_pos (by omega), show o + (i' * sz + j') - (o + i' * sz + j) = j' - j by omega]
        exact hj'
      · rw [if_neg h3] at hj'
        rw [if_neg (by omega)]
        simpa using hR i' row hi j' u hj'
  · rw [List.getElem?_set_ne (Ne.symm hii)] at hi'
    have hu := hR i' row0 hi' j' u hj'
    rcases Nat.lt_or_gt_of_ne hii with hlt | hgt
    · have : (i' + 1) * sz ≤ i * sz := Nat.mul_le_mul_right _ hlt
      rw [Nat.add_mul] at this
      rw [if_pos (by omega)]
      simpa using hu
    · have : (i + 1) * sz ≤ i' * sz := Nat.mul_le_mul_right _ hgt
      rw [Nat.add_mul] at this
      rw [if_neg (by omega), if_neg (by omega)]
      simpa using hu
theorem OwnSat.fit {w : World} {t : TypeId} {sz o n c b : Nat} {xs : List (List Value)} (hS : OwnSat w t sz (some ⟨b, o, none⟩) n c xs) {i : Nat} {row : List Value} (hi : xs[i]? = some row) :
    ∃ cur, w.heap[b]? = some (.cells cur t (0, 0)) ∧ elt o i sz + sz ≤ cur.size := by
  obtain ⟨_, cur, h1, h2, _⟩ := hS.at_ _ rfl
  simp only at h1 h2
  have hi' : i < n := by have := (List.getElem?_eq_some_iff.1 hi).1; rw [hS.len] at this; exact this
  have hle := hS.le
  have : (i + 1) * sz ≤ c * sz := Nat.mul_le_mul_right _ (by omega)
  rw [Nat.add_mul] at this
  exact ⟨cur, h1, by unfold elt; omega⟩

section
variable {P : Program} {N : Nat} {E : Env} {fr : List (Nat × Value)} {hp : List It} {ro : List Ro} {Kn Kr : St → Prop} {Kx : List (Nat × (St → Prop))} {ops : Array Oper} {rest : List Oper} {dst : Option Tmp} {ty : TypeId} {pos : String} {af : Array Edge} {T : TypeId} {x y : Operand} {v : Value} {F : List It}
theorem Sat.reown {w w' : World} {t sz b o n c n' c' : Nat} {xs xs' : List (List Value)} (hf : Frm [b] w w') (hs : OwnSat w' t sz (some ⟨b, o, none⟩) n' c' xs') :
    Sat w (feet [It.own t sz (some ⟨b, o, none⟩) n c xs]) [] [.own t sz (some ⟨b, o, none⟩) n' c' xs'] [] w' :=
  Sat.one (by simpa [feet, It.foot] using hf) hs (fun k hk => .inl (by simp only [It.foot, Option.map_some, Option.some.injEq] at hk; simp [feet, It.foot, hk]))
theorem wo_st_ownf {b o i j sz n c : Nat} {t : TypeId} {xs : List (List Value)} {row row' : List Value} [TOne P T] (hx : opd fr x = some (.pointer (some ⟨b, elt o i sz + j, none⟩))) (hy : opd fr y = some v) (h1 : v.oneCell' = true)
    (hs : hp.Perm (.own t sz (some ⟨b, o, none⟩) n c xs :: F)) (hi : xs[i]? = some row) (hl : SetAt row j v row') (hd : dstOk dst N = true)
    (h : WO P N E ops rest ⟨putF dst undef fr, .own t sz (some ⟨b, o, none⟩) n c (xs.set i row') :: F, ro⟩ Kn) : WO P N E ops (⟨dst, .store T x y, ty, pos, af, none⟩ :: rest) ⟨fr, hp, ro⟩ Kn :=
  wo_eff_skip (L := [_]) hs hd fun a w ok => by
    have hS : OwnSat w t sz (some ⟨b, o, none⟩) n c xs := ok.s.get hs
    obtain ⟨cur, hc, hfit⟩ := hS.fit hi
    have hsp := hl.lay.spec.1
    have hrow := hS.rows.lens row (List.mem_of_getElem? hi)
    have hfit2 : elt o i sz + j + [v].length ≤ cur.size := by simp at hsp ⊢; omega
    obtain ⟨w', h2, h3, h4⟩ := run_storeAt_lay (P := P) (T := T) (r := [v]) (cells_one h1) run_sizeOf_one hc hfit2 (by simpa using h1)
    refine ⟨_, w', ?_, Sat.reown h4 (cells_stored hS hc hi hl.lay (by simpa using h1) h3 hfit2), by simpa using h⟩
    simp only [execOp, ok.h.eval hx, ok.h.eval hy, Sem.run_bind, h2]; rfl
theorem wo_st_own1 {b o i n c : Nat} {t : TypeId} {xs : List (List Value)} {u : Value} [TOne P T] (hx : opd fr x = some (.pointer (some ⟨b, elt o i 1, none⟩))) (hy : opd fr y = some v) (h1 : v.oneCell' = true)
    (hs : hp.Perm (.own t 1 (some ⟨b, o, none⟩) n c xs :: F)) (hi : xs[i]? = some [u]) (hd : dstOk dst N = true)
    (h : WO P N E ops rest ⟨putF dst undef fr, .own t 1 (some ⟨b, o, none⟩) n c (xs.set i [v]) :: F, ro⟩ Kn) : WO P N E ops (⟨dst, .store T x y, ty, pos, af, none⟩ :: rest) ⟨fr, hp, ro⟩ Kn :=
  wo_st_ownf (j := 0) hx hy h1 hs hi .here hd h
theorem wo_st_owna {b o i sz n c : Nat} {t : TypeId} {xs : List (List Value)} {row r : List Value} [TAgg P T sz] (hx : opd fr x = some (.pointer (some ⟨b, elt o i sz, none⟩))) (hy : opd fr y = some (.agg r.toArray)) (h1 : allOne r = true) (hn : Nat.beq r.length sz = true)
    (hs : hp.Perm (.own t sz (some ⟨b, o, none⟩) n c xs :: F)) (hi : xs[i]? = some row) (hd : dstOk dst N = true)
    (h : WO P N E ops rest ⟨putF dst undef fr, .own t sz (some ⟨b, o, none⟩) n c (xs.set i r) :: F, ro⟩ Kn) : WO P N E ops (⟨dst, .store T x y, ty, pos, af, none⟩ :: rest) ⟨fr, hp, ro⟩ Kn :=
  wo_eff_skip (L := [_]) hs hd fun a w ok => by
    have hS : OwnSat w t sz (some ⟨b, o, none⟩) n c xs := ok.s.get hs
    have hn := Nat.eq_of_beq_eq_true hn
    obtain ⟨cur, hc, hfit⟩ := hS.fit hi
    have hrow := hS.rows.lens row (List.mem_of_getElem? hi)
    have hlay : LayAt row 0 r r := by
      have : ∀ (r row : List Value), r.length = row.length → LayAt row 0 r r := by
        intro r
        induction r with
        | nil => intro row h; have : row = [] := List.eq_nil_of_length_eq_zero h.symm; subst this; exact .nil
        | cons a r ih => intro row h; cases row with
          | nil => simp at h
          | cons b row => exact .here (ih row (by simpa using h))
      exact this r row (by omega)
    have hfit2 : elt o i sz + 0 + r.length ≤ cur.size := by omega
    obtain ⟨w', h2, h3, h4⟩ := run_storeAt_lay (P := P) (T := T) (v := .agg r.toArray) rfl (by rw [hn]; exact run_sizeOf_agg) hc hfit2 (allOne_mem h1)
    refine ⟨_, w', ?_, Sat.reown h4 (cells_stored hS hc hi hlay (allOne_mem h1) h3 hfit2), by simpa using h⟩
    simp only [execOp, ok.h.eval hx, ok.h.eval hy, Sem.run_bind]
    rw [show (⟨b, elt o i sz, none⟩ : Addr) = ⟨b, elt o i sz + 0, none⟩ from rfl, h2]; rfl

/-! what is known of an owned slice -/
theorem wc_some {c : Code} {t sz n k : Nat} {ao : Option Addr} {xs : List (List Value)} (hs : hp.Perm (.own t sz ao n k xs :: F)) (hn : 0 < n) (h : ∀ b o, ao = some ⟨b, o, none⟩ → WC P N E c ⟨fr, hp, ro⟩ Kn Kx Kr) : WC P N E c ⟨fr, hp, ro⟩ Kn Kx Kr := fun a w ok => by
  have hS : OwnSat w t sz ao n k xs := ok.s.get hs
  cases ao with
  | none => have := hS.nil rfl; have := hS.le; omega
  | some ad =>
    have h1 := (hS.at_ ad rfl).1
    obtain ⟨b, o, s⟩ := ad
    simp only at h1
    subst h1
    exact h b o rfl a w ok
theorem wo_some {t sz n k : Nat} {ao : Option Addr} {xs : List (List Value)} (hs : hp.Perm (.own t sz ao n k xs :: F)) (hn : 0 < n) (h : ∀ b o, ao = some ⟨b, o, none⟩ → WO P N E ops rest ⟨fr, hp, ro⟩ Kn) : WO P N E ops rest ⟨fr, hp, ro⟩ Kn := fun Q hQ a w ok => by
  have hS : OwnSat w t sz ao n k xs := ok.s.get hs
  cases ao with
  | none => have := hS.nil rfl; have := hS.le; omega
  | some ad =>
    have h1 := (hS.at_ ad rfl).1
    obtain ⟨b, o, s⟩ := ad
    simp only at h1
    subst h1
    exact h b o rfl Q hQ a w ok
theorem wc_own {c : Code} {t sz n k : Nat} {ao : Option Addr} {xs : List (List Value)} (hs : hp.Perm (.own t sz ao n k xs :: F)) (h : xs.length = n → n ≤ k → k ≤ maxLen → WC P N E c ⟨fr, hp, ro⟩ Kn Kx Kr) : WC P N E c ⟨fr, hp, ro⟩ Kn Kx Kr := fun a w ok => by
  have hS : OwnSat w t sz ao n k xs := ok.s.get hs
  exact h hS.len hS.le hS.max a w ok

/-- a nil slice owns nothing -/
theorem Sat.own0 {B : World} {S T : List Nat} {w : World} (h : Sat B S T hp ro w) (t sz : Nat) : Sat B S T (.own t sz none 0 0 [] :: hp) ro w :=
  ⟨h.frm, (by
    intro x hx
    rcases List.mem_cons.1 hx with rfl | hx
    · exact ⟨rfl, (by intro r hr; cases hr), Nat.le_refl _, Nat.zero_le _, fun _ => rfl, (by intro a ha; cases ha)⟩
    · exact h.sat x hx), (by
    intro x hx b hb
    rcases List.mem_cons.1 hx with rfl | hx
    · cases hb
    · exact h.own x hx b hb), List.pairwise_cons.2 ⟨(by intro y _ b hb; cases hb), h.dis⟩, h.rds, (by
    intro r hr x hx
    rcases List.mem_cons.1 hx with rfl | hx
    · intro e; cases e
    · exact h.rod r hr x hx), h.rok⟩
theorem wo_own0 (t sz : Nat) (h : WO P N E ops rest ⟨fr, .own t sz none 0 0 [] :: hp, ro⟩ Kn) : WO P N E ops rest ⟨fr, hp, ro⟩ Kn := fun Q hQ a w ok => h Q hQ a w ⟨ok.h, ok.s.own0 t sz⟩
theorem wc_own0 {c : Code} (t sz : Nat) (h : WC P N E c ⟨fr, .own t sz none 0 0 [] :: hp, ro⟩ Kn Kx Kr) : WC P N E c ⟨fr, hp, ro⟩ Kn Kx Kr := fun a w ok => h a w ⟨ok.h, ok.s.own0 t sz⟩

/-! literals of slices -/
inductive Rws' (fr : List (Nat × Value)) (sz : Nat) : Nat → List (Nat × Operand) → List (List Value) → Prop
  | nil {k} : Rws' fr sz k [] []
  | one {k x v rest xs} (hx : opd fr x = some v) (h1 : v.oneCell' = true) (hz : sz = 1) (h : Rws' fr sz (k + 1) rest xs) : Rws' fr sz k ((k, x) :: rest) ([v] :: xs)
  | agg {k x l rest xs} (hx : opd fr x = some (.agg (List.toArray l))) (hn : Nat.beq l.length sz = true) (ho : allOne l = true) (h : Rws' fr sz (k + 1) rest xs) : Rws' fr sz k ((k, x) :: rest) (l :: xs)
theorem Rws'.ok {fr : List (Nat × Value)} {sz k : Nat} {l : List (Nat × Operand)} {xs : List (List Value)} (h : Rws' fr sz k l xs) : RowsOk sz xs ∧ xs.length = l.length := by
  induction h with
  | nil => exact ⟨(fun r hr => by cases hr), rfl⟩
  | one hx h1 hz _ ih =>
    refine ⟨fun r hr => ?_, by simp [ih.2]⟩
    rcases List.mem_cons.1 hr with rfl | hr
    · exact ⟨by simp [hz], by simpa using h1⟩
    · exact ih.1 r hr
  | agg hx hn ho _ ih =>
    refine ⟨fun r hr => ?_, by simp [ih.2]⟩
    rcases List.mem_cons.1 hr with rfl | hr
    · exact ⟨Nat.eq_of_beq_eq_true hn, allOne_mem ho⟩
    · exact ih.1 r hr
theorem LayAt.mk : ∀ {l r : List Value} {n : Nat}, n + r.length ≤ l.length → LayAt l n r (l.take n ++ r ++ l.drop (n + r.length))
  | l, [], 0, _ => by simpa using LayAt.nil
  | [], _ :: _, 0, h => by simp at h
  | x :: l, v :: r, 0, h => by
    have := LayAt.here (x := x) (v := v) (LayAt.mk (l := l) (r := r) (n := 0) (by simp at h ⊢; omega))
    simpa using this
  | [], r, n + 1, h => by simp at h
  | x :: l, r, n + 1, h => by
    have := LayAt.there (x := x) (LayAt.mk (l := l) (r := r) (n := n) (by simp at h ⊢; omega))
    simpa [Nat.add_right_comm] using this
theorem fill_rws {fr : List (Nat × Value)} {a : Act} {sz k : Nat} {l : List (Nat × Operand)} {xs : List (List Value)} (h : Rws' fr sz k l xs) (hh : Holds N fr a) : ∀ (z : List Value), z.length = (k + l.length) * sz →
    Instr.fill (fun i => some (i * sz, sz)) z.toArray (l.map fun p => (p.1, a.eval p.2)) = some (z.take (k * sz) ++ xs.flatten).toArray := by
  induction h with
  | @nil k => intro z hz; simp at hz; simp [Instr.fill]; rw [List.take_of_length_le (by omega)]
  | @one k x v rest xs hx h1 hz h ih =>
    intro z hzl
    subst hz
    have hle : k * 1 + [v].length ≤ z.length := by simp at hzl ⊢; omega
    have hlen : (z.take (k * 1) ++ [v] ++ z.drop (k * 1 + [v].length)).length = z.length := by simp at hle ⊢; omega
    rw [List.map_cons, fill_bld (l := [v]) (off := k * 1) rfl (by rw [hh.eval hx]; exact cells_one h1) (LayAt.mk hle), ih _ (by rw [hlen, hzl, List.length_cons]; congr 1; omega)]
    have h2 : (z.take (k * 1)).length = k * 1 := by simp at hle ⊢; omega
    congr 2
    rw [List.append_assoc, List.take_append, h2, List.take_of_length_le (by rw [h2]; omega)]
    simp
  | @agg k x r rest xs hx hn ho h ih =>
    intro z hzl
    have hn := Nat.eq_of_beq_eq_true hn
    subst hn
    have hle : k * r.length + r.length ≤ z.length := by rw [hzl, List.length_cons, ← Nat.add_one_mul]; exact Nat.mul_le_mul_right _ (by omega)
    have hlen : (z.take (k * r.length) ++ r ++ z.drop (k * r.length + r.length)).length = z.length := by simp; omega
    rw [List.map_cons, fill_bld (off := k * r.length) rfl (by rw [hh.eval hx]; rfl) (LayAt.mk hle), ih _ (by rw [hlen, hzl, List.length_cons]; congr 1; omega)]
    have h2 : (z.take (k * r.length)).length = k * r.length := by simp; omega
    congr 2
    rw [List.append_assoc, List.take_append, h2, List.take_of_length_le (by rw [h2, Nat.add_mul]; omega)]
    simp [Nat.add_mul]
theorem wo_bsl {d n e sz by_ : Nat} {l : List (Nat × Operand)} {xs : List (List Value)} [hT : TSl P T e sz by_] (hr : Rws' fr sz 0 l xs) (hn : Nat.beq l.length n = true) (hz : Nat.ble (n * sz) 1000000 = true) (hm : Nat.ble n 1000000 = true) (hd : Nat.ble (d + 1) N = true)
    (h : ∀ b, WO P N E ops rest ⟨(d, .slice (some ⟨b, 0, none⟩) n n) :: fr, .own e sz (some ⟨b, 0, none⟩) n n xs :: hp, ro⟩ Kn) : WO P N E ops (⟨some d, .buildSlice T n l.toArray, ty, pos, af, none⟩ :: rest) ⟨fr, hp, ro⟩ Kn :=
  wo_eff (L := []) (.refl _) hd fun a w ok => by
    obtain ⟨i, z, h1, h2, h3, h4, h5, h6, h7⟩ := sl_und hT.h
    have hn := Nat.eq_of_beq_eq_true hn
    have hz := Nat.le_of_ble_eq_true hz
    have hm := Nat.le_of_ble_eq_true hm
    have hfill := fill_rws hr ok.h ((List.range (n * sz)).map fun j => z.cells[j % z.cells.size]!) (by simp [hn])
    have hrows := hr.ok
    simp only [Nat.zero_mul, List.take_zero, List.nil_append] at hfill
    refine ⟨.slice (some ⟨w.heap.size, 0, none⟩) n n, [.own e sz (some ⟨w.heap.size, 0, none⟩) n n xs], w.alloc (.cells xs.flatten.toArray e), ?_, ?_, h _⟩
    · have hbig : ¬ n * sz > 2 ^ 24 := by omega
      have e0 : (List.map (fun (x : Nat × Operand) => match x with | (i, x) => (i, a.eval x)) l) = l.map (fun p => (p.1, a.eval p.2)) := rfl
      have hsz : (sizeOf e).run P w = .ok sz w := by simp [sizeOf, typeInfo, h2, h5, go_sem]
      have hzv : (zeroValue e).run P w = .ok z w := by simp [zeroValue, typeInfo, h2, h3, go_sem]
      simp only [execOp, List.map_toArray, e0]
      generalize (l.map fun p => (p.1, a.eval p.2)) = parts at hfill ⊢
      by_cases h0 : n * sz = 0
      · have hr0 : ∀ f : Nat → Value, (Array.range (n * sz)).map f = #[] := fun f => by rw [h0]; simp
        have hl0 : ((List.range (n * sz)).map fun j => z.cells[j % z.cells.size]!).toArray = #[] := by rw [h0]; rfl
        rw [hl0] at hfill
        simp only [Instr.buildSlice, Sem.run_bind, run_underlying h1, Result.andThen_ok, hsz, hbig, if_false, h0, if_true, Sem.run_pure]
        simp only [h0] at hr0
        simp only [hr0, hfill]
        rfl
      · have hr0 : (Array.range (n * sz)).map (fun j => z.cells[j % z.cells.size]!) = ((List.range (n * sz)).map fun j => z.cells[j % z.cells.size]!).toArray := by apply Array.ext'; simp
        simp only [Instr.buildSlice, Sem.run_bind, run_underlying h1, Result.andThen_ok, hsz, hbig, if_false, h0, Sem.run_pure, hzv, hr0, hfill]
        rfl
    · refine Sat.one ⟨rfl, rfl, rfl, by simp, fun k hk _ => Below.heap_alloc w _ k hk⟩ ?_ (fun b hb => .inr (by simp only [It.foot, Option.map_some, Option.some.injEq] at hb; omega))
      refine ⟨by rw [hrows.2, hn], hrows.1, Nat.le_refl _, by unfold maxLen; omega, (fun h => by cases h), fun ad had => ?_⟩
      simp only [Option.some.injEq] at had
      subst had
      refine ⟨rfl, _, heap_alloc_new w _, ?_, fun j u hj => by simpa using hj⟩
      have := flat_len hrows.1.lens
      rw [hrows.2, hn] at this
      simp only [List.size_toArray, this]; omega

/-! append -/
theorem World.setCells_spec (b : Nat) (t : TypeId) : ∀ (r : List Value) (o : Nat) (w : World) (cur : Array Value), w.heap[b]? = some (.cells cur t (0, 0)) → o + r.length ≤ cur.size →
    (w.setCells b o r).heap[b]? = some (.cells (cur.toList.take o ++ r ++ cur.toList.drop (o + r.length)).toArray t (0, 0)) ∧ Frm [b] w (w.setCells b o r)
  | [], o, w, cur, h, _ => ⟨by simpa [World.setCells] using h, Frm.refl _ _⟩
  | v :: r, o, w, cur, h, hl => by
    have h1 : (w.setCell ⟨b, o, none⟩ v).heap[b]? = some (.cells (cur.setIfInBounds o v) t (0, 0)) := Blk.set h o v
    obtain ⟨h2, h3⟩ := World.setCells_spec b t r (o + 1) _ _ h1 (by simp at hl ⊢; omega)
    have hsz : (w.setCell ⟨b, o, none⟩ v).heap.size = w.heap.size := by simp [World.setCell]
    refine ⟨?_, ⟨h3.os, h3.tape, h3.output, by have := h3.size; rw [World.setCells]; omega, fun k hk hn => ?_⟩⟩
    · rw [World.setCells, h2]
      congr 3
      have hlo : o < cur.toList.length := by simp at hl ⊢; omega
      rw [Array.toList_setIfInBounds]
      apply List.ext_getElem?
      intro j
      have hA : o + 1 + r.length ≤ (cur.toList.set o v).length := by simp at hl ⊢; omega
      have hB : o + (v :: r).length ≤ cur.toList.length := by simpa using hl
      rw [lay_get hA, lay_get hB]
      simp only [List.length_cons]
      by_cases c1 : j < o
      · rw [if_pos (by omega), if_pos c1, List.getElem?_set_ne (by omega)]
      · rw [if_neg c1]
        by_cases c2 : j = o
        · subst c2
          rw [if_pos (by omega), if_pos (by omega), List.getElem?_set_self hlo]; simp
        · by_cases c3 : j < o + (r.length + 1)
          · rw [if_neg (by omega), if_pos (by omega), if_pos c3, show j - o = (j - (o + 1)) + 1 by omega]; simp
          · rw [if_neg (by omega), if_neg (by omega), if_neg c3, List.getElem?_set_ne (by omega)]
    · exact (h3.block k (by omega) hn).trans (Below.heap_setCell w _ v k (fun e => hn (by simp [e])))
theorem own_of_row {w : World} {base e sz n : Nat} {v : Value} {xs : List (List Value)} (hr : RowsOk sz xs) (hn : xs.length = n) (h : w.ownsRow base e sz v n xs.flatten) :
    ∃ ao c, v = .slice ao n c ∧ OwnSat w e sz ao n c xs ∧ ∀ a, ao = some a → base ≤ a.block ∧ a.off = 0 := by
  rcases h.2 with ⟨rfl, h0⟩ | ⟨g, cap, cur, rfl, hb, hg, h1, h2, h3, h4⟩
  · subst h0
    exact ⟨none, 0, rfl, ⟨hn, hr, Nat.le_refl _, Nat.zero_le _, fun _ => rfl, (fun a ha => by cases ha)⟩, (fun a ha => by cases ha)⟩
  · refine ⟨_, cap, rfl, ⟨hn, hr, h1, h2, (fun h => by cases h), fun a ha => ?_⟩, fun a ha => ?_⟩
    · simp only [Option.some.injEq] at ha
      subst ha
      refine ⟨rfl, cur, hg, by simp [h3], fun j u hj => ?_⟩
      rw [← h4, List.getElem?_take] at hj
      split at hj
      · simpa using hj
      · cases hj
    · simp only [Option.some.injEq] at ha
      subst ha; exact ⟨hb, rfl⟩
theorem run_append_sl {w : World} {t ty e sz by_ : Nat} [hT : TSl P t e sz by_] {ao : Option Addr} {n c : Nat} {xs ys : List (List Value)} {ad : Addr} {m c2 : Nat} (hS : OwnSat w e sz ao n c xs) (hy : RowsOk sz ys) (hm : ys.length = m)
    (hc : ∀ j u, ys.flatten[j]? = some u → w.cell? (ad.add j) = some u) (b1 : n + m ≤ maxLen) (b2 : (n + m) * by_ ≤ 140737488355328) :
    ∃ ao' c' w', (Builtin.append_ #[t, t] ty #[.slice ao n c, .slice (some ad) m c2]).run P w = .ok (.slice ao' (n + m) c') w' ∧ OwnSat w' e sz ao' (n + m) c' (xs ++ ys) ∧ Frm (feet [It.own e sz ao n c xs]) w w' ∧
      (∀ b, (It.own e sz ao' (n + m) c' (xs ++ ys)).foot = some b → b ∈ feet [It.own e sz ao n c xs] ∨ w.heap.size ≤ b) ∧ ∀ a, ao' = some a → a.off = 0 ∨ ao' = ao := by
  obtain ⟨i, z, h1, h2, h3, h4, h5, h6, h7⟩ := sl_und hT.h
  have hrows : RowsOk sz (xs ++ ys) := fun r hr => by
    rcases List.mem_append.1 hr with hr | hr
    · exact hS.rows r hr
    · exact hy r hr
  have hlen : (xs ++ ys).length = n + m := by simp [hS.len, hm]
  have hfl : (xs ++ ys).flatten = xs.flatten ++ ys.flatten := List.flatten_append
  have hxl : xs.flatten.length = n * sz := by rw [flat_len hS.rows.lens, hS.len]
  have hyl : ys.flatten.length = m * sz := by rw [flat_len hy.lens, hm]
  have hone : ∀ u ∈ ys.flatten, u.oneCell' = true := fun u hu => by
    obtain ⟨r, hr, hu⟩ := List.mem_flatten.1 hu
    exact (hy r hr).2 u hu
  have fin : ∀ v' w', (Builtin.append_ #[t, t] ty #[.slice ao n c, .slice (some ad) m c2]).run P w = .ok v' w' → w'.ownsRow w.heap.size e sz v' (n + m) (xs.flatten ++ ys.flatten) → w.grownBy w' none →
      ∃ ao' c' w', (Builtin.append_ #[t, t] ty #[.slice ao n c, .slice (some ad) m c2]).run P w = .ok (.slice ao' (n + m) c') w' ∧ OwnSat w' e sz ao' (n + m) c' (xs ++ ys) ∧ Frm (feet [It.own e sz ao n c xs]) w w' ∧
      (∀ b, (It.own e sz ao' (n + m) c' (xs ++ ys)).foot = some b → b ∈ feet [It.own e sz ao n c xs] ∨ w.heap.size ≤ b) ∧ ∀ a, ao' = some a → a.off = 0 ∨ ao' = ao := by
    intro v' w' hr ho hg
    rw [← hfl] at ho
    obtain ⟨ao', c', rfl, hO, hB⟩ := own_of_row hrows hlen ho
    refine ⟨ao', c', w', hr, hO, ⟨hg.os, hg.tape, hg.output, hg.size, fun k hk _ => hg.block k hk (by simp)⟩, fun b hb => .inr ?_, fun a ha => .inl (hB a ha).2⟩
    cases ao' with
    | none => cases hb
    | some a =>
      simp only [It.foot, Option.map_some, Option.some.injEq] at hb
      subst hb
      exact (hB a rfl).1
  cases ao with
  | none =>
    have hc0 := hS.nil rfl
    have hle := hS.le
    subst hc0
    obtain rfl : n = 0 := by omega
    have hx0 : xs = [] := List.eq_nil_of_length_eq_zero hS.len
    subst hx0
    obtain ⟨v', w', hr, ho, hg, _⟩ := run_append_own (P := P) w w.heap.size t ty e i z sz by_ h1 h2 h3 h5 h6 h4 h7 (.slice none 0 0) 0 [] (World.ownsRow_nil w _ e sz) ad m c2 ys.flatten hyl hc hone b1 b2 (Nat.le_refl _)
    exact fin v' w' hr (by simpa using ho) hg
  | some a =>
    obtain ⟨hsp, cur, hcur, hfit, hseg⟩ := hS.at_ a rfl
    obtain ⟨b, o, s⟩ := a
    simp only at hsp hcur hfit hseg
    subst hsp
    by_cases hroom : n + m ≤ c
    · have hfit2 : o + n * sz + ys.flatten.length ≤ cur.size := by
        rw [hyl]
        have : (n + m) * sz ≤ c * sz := Nat.mul_le_mul_right _ hroom
        rw [Nat.add_mul] at this; omega
      subst h5
      have hr := run_append_room_cells (P := P) w t ty e i h1 h2 b o n c ad m c2 ys.flatten hyl hc hone hroom (fun j hj => by simp [World.cell?, hcur]; omega) (fun j hj => by simp [World.frozen?, hcur])
      obtain ⟨hk1, hk2⟩ := World.setCells_spec b e ys.flatten (o + n * i.size) w cur hcur hfit2
      refine ⟨_, _, _, hr, ⟨hlen, hrows, hroom, hS.max, (fun h => by cases h), fun a ha => ?_⟩, by simpa [feet, It.foot] using hk2, fun k hk => .inl (by simp only [It.foot, Option.map_some, Option.some.injEq] at hk; simp [feet, It.foot, hk]), fun _ _ => .inr rfl⟩
      simp only [Option.some.injEq] at ha
      subst ha
      refine ⟨rfl, _, hk1, by simp; omega, fun j u hj => ?_⟩
      simp only
      rw [List.getElem?_toArray, lay_get (by simpa using hfit2)]
      rw [hfl] at hj
      by_cases c1 : j < n * i.size
      · rw [if_pos (by omega)]
        rw [List.getElem?_append_left (by omega)] at hj
        simpa using hseg j u hj
      · rw [List.getElem?_append_right (by omega), hxl] at hj
        have := (List.getElem?_eq_some_iff.1 hj).1
        rw [if_neg (by omega), if_pos (by omega), show o + j - (o + n * i.size) = j - n * i.size by omega]
        exact hj
    · obtain ⟨v', w', hr, ho, hg⟩ := run_append_arg_grows (P := P) w t ty e i z sz by_ h1 h2 h3 h5 h6 h4 h7 ⟨b, o, none⟩ n c xs.flatten hxl (fun j u hj => by
        rw [Addr.add_lit]; simp only [World.cell?, hcur]; exact hseg j u hj) ad m c2 ys.flatten hyl hc (by omega) b1 b2
      exact fin v' w' hr ho hg
theorem exec_append {a : Act} {t : TypeId} {g : Option (Nat × Bool)} {u v : Value} {w : World} (hx : a.eval x = u) (hy : a.eval y = v) {r : Value} {w' : World} (h : (Builtin.append_ #[t, t] ty #[u, v]).run P w = .ok r w') :
    (execOp a.eval ⟨dst, .call ⟨.builtin .append, #[x, y], #[t, t]⟩, ty, pos, af, g⟩).run P w = .ok (.value r) w' := by
  simp only [execOp, resolve, List.map_toArray, List.map_cons, List.map_nil, hx, hy]
  simp only [Sem.run_bind, Sem.run_pure, Result.andThen_ok, invoke, builtin, h]
theorem Sat.regrow {w w' : World} {x y : It} (hf : Frm (feet [x]) w w') (hs : y.sat w') (ho : ∀ b, y.foot = some b → b ∈ feet [x] ∨ w.heap.size ≤ b) : Sat w (feet [x]) [] [y] [] w' := Sat.one hf hs ho
/-- append of an owned slice's elements -/
theorem wo_app {d t e sz by_ n c m c2 : Nat} {ao ao2 : Option Addr} {xs ys : List (List Value)} {F2 : List It} [TSl P t e sz by_] (hx : opd fr x = some (.slice ao n c)) (hy : opd fr y = some (.slice ao2 m c2))
    (hs : hp.Perm (.own e sz ao n c xs :: F)) (hs2 : hp.Perm (.own e sz ao2 m c2 ys :: F2)) (b1 : n + m ≤ maxLen) (b2 : (n + m) * by_ ≤ 140737488355328) (hd : Nat.ble (d + 1) N = true)
    (h : ∀ ao' c', WO P N E ops rest ⟨(d, .slice ao' (n + m) c') :: fr, .own e sz ao' (n + m) c' (xs ++ ys) :: F, ro⟩ Kn) : WO P N E ops (⟨some d, .call ⟨.builtin .append, #[x, y], #[t, t]⟩, ty, pos, af, none⟩ :: rest) ⟨fr, hp, ro⟩ Kn :=
  wo_eff (L := [_]) hs hd fun a w ok => by
    have hS : OwnSat w e sz ao n c xs := ok.s.get hs
    have hS2 : OwnSat w e sz ao2 m c2 ys := ok.s.get hs2
    cases ao2 with
    | none =>
      obtain ⟨i, z, h1, h2, h3, h4, h5, h6, h7⟩ := sl_und (TSl.h (P := P) (T := t))
      have hc0 := hS2.nil rfl
      have hle := hS2.le
      obtain rfl : m = 0 := by omega
      obtain rfl : ys = [] := List.eq_nil_of_length_eq_zero hS2.len
      refine ⟨.slice ao n c, [.own e sz ao n c xs], w, exec_append (ok.h.eval hx) (ok.h.eval hy) ?_, Sat.regrow (Frm.refl _ _) hS (fun b hb => .inl (mem_feet.2 ⟨_, .head _, hb⟩)), by simpa [putF] using h ao c⟩
      have hn0 : n + 0 ≤ c := by have := hS.le; omega
      cases ao <;> simp [Builtin.append_, run_underlying h1, sizeOf, typeInfo, h2, Builtin.lenOf, hn0, Builtin.firstCells, storeCells, go_sem] <;> (have := hS.le; omega)
    | some ad =>
      obtain ⟨hsp, cur, hcur, _, hseg⟩ := hS2.at_ ad rfl
      obtain ⟨b, o, s⟩ := ad
      simp only at hsp hcur hseg
      subst hsp
      obtain ⟨ao', c', w', h1, h2, h3, h4, h5⟩ := run_append_sl (P := P) (t := t) (ty := ty) (ad := ⟨b, o, none⟩) (c2 := c2) hS hS2.rows hS2.len (fun j u hj => by rw [Addr.add_lit]; simp only [World.cell?, hcur]; exact hseg j u hj) b1 b2
      exact ⟨_, [.own e sz ao' (n + m) c' (xs ++ ys)], w', exec_append (ok.h.eval hx) (ok.h.eval hy) h1, Sat.regrow h3 h2 h4, by simpa [putF] using h ao' c'⟩
/-- the same, and where the elements lie: at a block's head, or where they lay -/
theorem wo_app0 {d t e sz by_ n c m c2 : Nat} {ao : Option Addr} {ad : Addr} {xs ys : List (List Value)} {F2 : List It} [TSl P t e sz by_] (hx : opd fr x = some (.slice ao n c)) (hy : opd fr y = some (.slice (some ad) m c2))
    (hs : hp.Perm (.own e sz ao n c xs :: F)) (hs2 : hp.Perm (.own e sz (some ad) m c2 ys :: F2)) (b1 : n + m ≤ maxLen) (b2 : (n + m) * by_ ≤ 140737488355328) (hd : Nat.ble (d + 1) N = true)
    (h : ∀ ao' c', (∀ a, ao' = some a → (∃ b, ao' = some ⟨b, 0, none⟩) ∨ ao' = ao) → (ao' = none → n + m = 0) → n + m ≤ c' → WO P N E ops rest ⟨(d, .slice ao' (n + m) c') :: fr, .own e sz ao' (n + m) c' (xs ++ ys) :: F, ro⟩ Kn) : WO P N E ops (⟨some d, .call ⟨.builtin .append, #[x, y], #[t, t]⟩, ty, pos, af, none⟩ :: rest) ⟨fr, hp, ro⟩ Kn :=
  wo_eff (L := [_]) hs hd fun a w ok => by
    have hS : OwnSat w e sz ao n c xs := ok.s.get hs
    have hS2 : OwnSat w e sz (some ad) m c2 ys := ok.s.get hs2
    obtain ⟨hsp, cur, hcur, _, hseg⟩ := hS2.at_ ad rfl
    obtain ⟨b, o, s⟩ := ad
    simp only at hsp hcur hseg
    subst hsp
    obtain ⟨ao', c', w', h1, h2, h3, h4, h5⟩ := run_append_sl (P := P) (t := t) (ty := ty) (ad := ⟨b, o, none⟩) (c2 := c2) hS hS2.rows hS2.len (fun j u hj => by rw [Addr.add_lit]; simp only [World.cell?, hcur]; exact hseg j u hj) b1 b2
    exact ⟨_, [.own e sz ao' (n + m) c' (xs ++ ys)], w', exec_append (ok.h.eval hx) (ok.h.eval hy) h1, Sat.regrow h3 h2 h4, by simpa [putF] using h ao' c' (fun a ha => (h5 a ha).imp_left (fun h0 => ⟨a.block, by rw [ha]; obtain ⟨b', o', s'⟩ := a; have := (h2.at_ _ ha).1; simp only at this h0 ⊢; rw [this, h0]⟩)) (fun e => by have := h2.nil e; have := h2.le; omega) h2.le⟩
/-- append of a segment that is only read -/
theorem wo_app_ro {d t e sz by_ n c m c2 b o : Nat} {ao : Option Addr} {xs ys : List (List Value)} [TSl P t e sz by_] (hx : opd fr x = some (.slice ao n c)) (hy : opd fr y = some (.slice (some ⟨b, o, none⟩) m c2))
    (hs : hp.Perm (.own e sz ao n c xs :: F)) (hr : ⟨b, o, sz, ys⟩ ∈ ro) (hm : ys.length = m) (b1 : n + m ≤ maxLen) (b2 : (n + m) * by_ ≤ 140737488355328) (hd : Nat.ble (d + 1) N = true)
    (h : ∀ ao' c', WO P N E ops rest ⟨(d, .slice ao' (n + m) c') :: fr, .own e sz ao' (n + m) c' (xs ++ ys) :: F, ro⟩ Kn) : WO P N E ops (⟨some d, .call ⟨.builtin .append, #[x, y], #[t, t]⟩, ty, pos, af, none⟩ :: rest) ⟨fr, hp, ro⟩ Kn :=
  wo_eff (L := [_]) hs hd fun a w ok => by
    have hS : OwnSat w e sz ao n c xs := ok.s.get hs
    obtain ⟨hro, cur, tt, fz, hcur, hseg⟩ := ok.s.rds _ hr
    simp only at hro hcur hseg
    obtain ⟨ao', c', w', h1, h2, h3, h4, h5⟩ := run_append_sl (P := P) (t := t) (ty := ty) (ad := ⟨b, o, none⟩) (c2 := c2) hS hro hm (fun j u hj => by rw [Addr.add_lit]; simp only [World.cell?, hcur]; exact hseg j u hj) b1 b2
    exact ⟨_, [.own e sz ao' (n + m) c' (xs ++ ys)], w', exec_append (ok.h.eval hx) (ok.h.eval hy) h1, Sat.regrow h3 h2 h4, by simpa [putF] using h ao' c'⟩

/-! cuts -/
theorem OwnSat.cut {w : World} {t sz n c l h m : Nat} {ao : Option Addr} {xs : List (List Value)} (hS : OwnSat w t sz ao n c xs) (h1 : l ≤ h) (h2 : h ≤ n) (h3 : h ≤ m) (h4 : m ≤ c) :
    OwnSat w t sz (if m = l then ao else ao.map (·.add (l * sz))) (h - l) (m - l) ((xs.take h).drop l) := by
  have hrows : RowsOk sz ((xs.take h).drop l) := fun r hr => hS.rows r (List.mem_of_mem_take (List.mem_of_mem_drop hr))
  have hlen : ((xs.take h).drop l).length = h - l := by simp [hS.len]; omega
  have hmax := hS.max
  have hle := hS.le
  refine ⟨hlen, hrows, by omega, by omega, fun e => ?_, fun a ha => ?_⟩
  · by_cases c1 : m = l
    · omega
    · rw [if_neg c1] at e
      cases ao with
      | none => have := hS.nil rfl; omega
      | some a => cases e
  · by_cases c1 : m = l
    · rw [if_pos c1] at ha
      obtain ⟨g1, cur, g2, g3, g4⟩ := hS.at_ a ha
      have h0 : (xs.take h).drop l = [] := List.eq_nil_of_length_eq_zero (by omega)
      refine ⟨g1, cur, g2, ?_, ?_⟩
      · have : (m - l) * sz = 0 := by rw [show m - l = 0 by omega]; simp
        omega
      · rw [h0]; intro j u hj; simp at hj
    · rw [if_neg c1] at ha
      cases ao with
      | none => cases ha
      | some a0 =>
        obtain ⟨g1, cur, g2, g3, g4⟩ := hS.at_ a0 rfl
        obtain ⟨b, o, s⟩ := a0
        simp only at g1 g2 g3 g4
        subst g1
        rw [Option.map_some, Option.some.injEq, Addr.add_lit] at ha
        subst ha
        refine ⟨rfl, cur, g2, ?_, ?_⟩
        · have e1 : l * sz + (m - l) * sz = m * sz := by rw [← Nat.add_mul]; congr 1; omega
          have e2 : m * sz ≤ c * sz := Nat.mul_le_mul_right _ h4
          simp only; omega
        · refine (seg_iff hrows.lens).2 ?_
          have hR := (seg_iff hS.rows.lens).1 g4
          intro i row hi j u hj
          rw [List.getElem?_drop, List.getElem?_take] at hi
          split at hi
          · have := hR (l + i) row hi j u hj
            rw [show o + l * sz + (i * sz + j) = o + ((l + i) * sz + j) by rw [Nat.add_mul]; omega]
            exact this
          · cases hi
theorem Ro.cut {w : World} {b o sz l h : Nat} {xs : List (List Value)} (hS : Ro.sat w ⟨b, o, sz, xs⟩) : Ro.sat w ⟨b, elt o l sz, sz, (xs.take h).drop l⟩ := by
  obtain ⟨h0, cur, t, fz, h1, h2⟩ := hS
  simp only at h0 h1 h2
  have hrows : RowsOk sz ((xs.take h).drop l) := fun r hr => h0 r (List.mem_of_mem_take (List.mem_of_mem_drop hr))
  refine ⟨hrows, cur, t, fz, h1, (seg_iff hrows.lens).2 ?_⟩
  have hR := (seg_iff h0.lens).1 h2
  intro i row hi j u hj
  rw [List.getElem?_drop, List.getElem?_take] at hi
  split at hi
  · have := hR (l + i) row hi j u hj
    unfold elt
    rw [show o + l * sz + (i * sz + j) = o + ((l + i) * sz + j) by rw [Nat.add_mul]; omega]
    exact this
  · cases hi
/-- the bounds of a cut, as the operands give them -/
inductive Bnds (fr : List (Nat × Value)) (n c : Nat) : Option Operand → Option Operand → Option Operand → Nat → Nat → Nat → Prop
  | lo {x k} {l : Nat} {z : Int} (hx : opd fr x = some (.int k z)) (hz : z = (l : Int)) (hl : l ≤ n) : Bnds fr n c (some x) none none l n c
  | hi {y k} {h : Nat} {z : Int} (hy : opd fr y = some (.int k z)) (hz : z = (h : Int)) (hh : h ≤ c) : Bnds fr n c none (some y) none 0 h c
  | lohi {x y k k'} {l h : Nat} {z z' : Int} (hx : opd fr x = some (.int k z)) (hz : z = (l : Int)) (hy : opd fr y = some (.int k' z')) (hz' : z' = (h : Int)) (hl : l ≤ h) (hh : h ≤ c) : Bnds fr n c (some x) (some y) none l h c
  | himax {y u k k'} {h m : Nat} {z z' : Int} (hy : opd fr y = some (.int k z)) (hz : z = (h : Int)) (hu : opd fr u = some (.int k' z')) (hz' : z' = (m : Int)) (hh : h ≤ m) (hm : m ≤ c) : Bnds fr n c none (some y) (some u) 0 h m
  | all : Bnds fr n c none none none 0 n c
theorem Bnds.run {fr : List (Nat × Value)} {n c l h m : Nat} {lo hi mx : Option Operand} {a : Act} {w : World} {isS : Bool} (hb : Bnds fr n c lo hi mx l h m) (hh : Holds N fr a) (hS : mx.isSome = true → isS = true) :
    (Instr.sliceBounds isS n c (lo.map a.eval) (hi.map a.eval) (mx.map a.eval)).run P w = .ok (l, h, m) w := by
  have key : ∀ (k : IntKind) (l y : Nat) (code : BoundsCode), l ≤ y → (Instr.sliceBound (.int k (l : Int)) y code).run P w = .ok l w := by
    intro k l y code hl
    have : (0 : Int) ≤ (l : Int) ∧ (l : Int) ≤ (y : Int) := by omega
    simp only [Instr.sliceBound, asIntOf, Sem.run_bind, Sem.run_pure, Result.andThen_ok, this, and_self, if_true, Int.toNat_natCast]
  cases hb with
  | lo hx hz hl => subst hz; simp only [Instr.sliceBounds, Option.map_some, Option.map_none, hh.eval hx, Sem.run_bind, Sem.run_pure, Result.andThen_ok, key _ _ _ _ hl]
  | hi hy hz hl => subst hz; simp only [Instr.sliceBounds, Option.map_some, Option.map_none, hh.eval hy, Sem.run_bind, Sem.run_pure, Result.andThen_ok, key _ _ _ _ hl]
  | lohi hx hz hy hz' hl hl' => subst hz; subst hz'; simp only [Instr.sliceBounds, Option.map_some, Option.map_none, hh.eval hx, hh.eval hy, Sem.run_bind, Sem.run_pure, Result.andThen_ok, key _ _ _ _ hl, key _ _ _ _ hl']
  | himax hy hz hu hz' hl hl' => subst hz; subst hz'; simp only [Instr.sliceBounds, Option.map_some, Option.map_none, hh.eval hy, hh.eval hu, Sem.run_bind, Sem.run_pure, Result.andThen_ok, key _ _ _ _ hl, key _ _ _ _ hl']
  | all => simp only [Instr.sliceBounds, Option.map_none, Sem.run_bind, Sem.run_pure, Result.andThen_ok]
theorem exec_cut {a : Act} {e sz by_ n c l h m : Nat} {ao : Option Addr} {lo hi mx : Option Operand} {w : World} {g : Option (Nat × Bool)} [hT : TSl P T e sz by_] (hh : Holds N fr a) (hx : opd fr x = some (.slice ao n c)) (hb : Bnds fr n c lo hi mx l h m) :
    (execOp a.eval ⟨dst, .slice T x lo hi mx, ty, pos, af, g⟩).run P w = .ok (.value (.slice (if m = l then ao else ao.map (·.add (l * sz))) (h - l) (m - l))) w := by
  obtain ⟨i, z, h1, h2, h3, h4, h5, h6, h7⟩ := sl_und hT.h
  have hsz : (sizeOf e).run P w = .ok sz w := by simp [sizeOf, typeInfo, h2, h5, go_sem]
  simp only [execOp, hh.eval hx, Instr.sliceAt, Sem.run_bind, run_underlying h1, Result.andThen_ok, Instr.slice, hb.run hh (fun _ => rfl), hsz, Sem.run_pure]
theorem wo_cut {d e sz by_ n c l h m : Nat} {ao : Option Addr} {xs : List (List Value)} {lo hi mx : Option Operand} [TSl P T e sz by_] (hx : opd fr x = some (.slice ao n c)) (hs : hp.Perm (.own e sz ao n c xs :: F)) (hb : Bnds fr n c lo hi mx l h m)
    (hlh : l ≤ h ∧ h ≤ n ∧ h ≤ m ∧ m ≤ c) (hd : Nat.ble (d + 1) N = true)
    (hk : ∀ ao', WO P N E ops rest ⟨(d, .slice ao' (h - l) (m - l)) :: fr, .own e sz ao' (h - l) (m - l) ((xs.take h).drop l) :: F, ro⟩ Kn) : WO P N E ops (⟨some d, .slice T x lo hi mx, ty, pos, af, none⟩ :: rest) ⟨fr, hp, ro⟩ Kn :=
  wo_eff (L := [_]) hs hd fun a w ok => by
    have hS : OwnSat w e sz ao n c xs := ok.s.get hs
    refine ⟨_, [.own e sz (if m = l then ao else ao.map (·.add (l * sz))) (h - l) (m - l) ((xs.take h).drop l)], w, exec_cut ok.h hx hb, Sat.regrow (Frm.refl _ _) (hS.cut hlh.1 hlh.2.1 hlh.2.2.1 hlh.2.2.2) (fun b hbb => .inl ?_), by simpa [putF] using hk _⟩
    refine mem_feet.2 ⟨_, .head _, ?_⟩
    by_cases c1 : m = l
    · simpa [It.foot, c1] using hbb
    · cases ao with
      | none => simp [It.foot, c1] at hbb
      | some a0 =>
        simp only [It.foot, c1, if_false, Option.map_some, Option.some.injEq] at hbb ⊢
        rw [← hbb]; unfold Addr.add; split <;> rfl
theorem wo_cut_lo {d e sz by_ n c l : Nat} {ao : Option Addr} {xs : List (List Value)} {lo : Operand} {z : Int} {k : IntKind} [TSl P T e sz by_] (hx : opd fr x = some (.slice ao n c)) (hs : hp.Perm (.own e sz ao n c xs :: F)) (hlo : opd fr lo = some (.int k z)) (hz : z = (l : Int)) (hl : l ≤ n)
    (hd : Nat.ble (d + 1) N = true) (hk : ∀ ao', WO P N E ops rest ⟨(d, .slice ao' (n - l) (c - l)) :: fr, .own e sz ao' (n - l) (c - l) (xs.drop l) :: F, ro⟩ Kn) : WO P N E ops (⟨some d, .slice T x (some lo) none none, ty, pos, af, none⟩ :: rest) ⟨fr, hp, ro⟩ Kn := by
  intro Q hQ a w ok
  have hS : OwnSat w e sz ao n c xs := ok.s.get hs
  refine wo_cut (h := n) (m := c) hx hs (.lo hlo hz hl) ⟨hl, Nat.le_refl _, hS.le, Nat.le_refl _⟩ hd (fun ao' => ?_) Q hQ a w ok
  have : xs.take n = xs := List.take_of_length_le (by rw [hS.len]; exact Nat.le_refl _)
  rw [this]
  exact hk ao'
theorem wo_cut_hi {d e sz by_ n c h : Nat} {ao : Option Addr} {xs : List (List Value)} {hi : Operand} {z : Int} {k : IntKind} [TSl P T e sz by_] (hx : opd fr x = some (.slice ao n c)) (hs : hp.Perm (.own e sz ao n c xs :: F)) (hhi : opd fr hi = some (.int k z)) (hz : z = (h : Int)) (hl : h ≤ n)
    (hd : Nat.ble (d + 1) N = true) (hk : ∀ ao', WO P N E ops rest ⟨(d, .slice ao' h c) :: fr, .own e sz ao' h c (xs.take h) :: F, ro⟩ Kn) : WO P N E ops (⟨some d, .slice T x none (some hi) none, ty, pos, af, none⟩ :: rest) ⟨fr, hp, ro⟩ Kn := by
  intro Q hQ a w ok
  have hS : OwnSat w e sz ao n c xs := ok.s.get hs
  have hle := hS.le
  refine wo_cut (l := 0) (h := h) (m := c) hx hs (.hi hhi hz (by omega)) ⟨Nat.zero_le _, hl, by omega, Nat.le_refl _⟩ hd (fun ao' => ?_) Q hQ a w ok
  simpa using hk ao'
/-- a cut of a segment that is only read -/
theorem wo_cut_ro {d e sz by_ n c l h m b o : Nat} {xs : List (List Value)} {lo hi mx : Option Operand} [TSl P T e sz by_] (hx : opd fr x = some (.slice (some ⟨b, o, none⟩) n c)) (hr : ⟨b, o, sz, xs⟩ ∈ ro) (hb : Bnds fr n c lo hi mx l h m)
    (hlh : l ≤ h ∧ h ≤ m) (hd : Nat.ble (d + 1) N = true)
    (hk : ∀ o', (0 < h - l → o' = elt o l sz) → WO P N E ops rest ⟨(d, .slice (some ⟨b, o', none⟩) (h - l) (m - l)) :: fr, hp, ⟨b, elt o l sz, sz, (xs.take h).drop l⟩ :: ro⟩ Kn) : WO P N E ops (⟨some d, .slice T x lo hi mx, ty, pos, af, none⟩ :: rest) ⟨fr, hp, ro⟩ Kn := by
  intro Q hQ a w ok
  have hv := exec_cut (P := P) (N := N) (T := T) (fr := fr) (x := x) (dst := some d) (ty := ty) (pos := pos) (af := af) (g := none) (w := w) ok.h hx hb
  have e : (if m = l then some (⟨b, o, none⟩ : Addr) else (some (⟨b, o, none⟩ : Addr)).map (·.add (l * sz))) = some ⟨b, if m = l then o else elt o l sz, none⟩ := by
    by_cases c1 : m = l
    · simp [c1]
    · simp [c1, Addr.add_lit, elt]
  rw [e] at hv
  unfold wpList
  rw [if_pos (by simp [Region.wanted])]
  refine .inl ?_
  unfold Oper.wp
  rw [hv]
  refine hk (if m = l then o else elt o l sz) (fun h0 => if_neg (by omega)) Q hQ _ w ⟨ok.h.put (Nat.le_of_ble_eq_true hd) _, ⟨ok.s.frm, ok.s.sat, ok.s.own, ok.s.dis, fun r hr' => ?_, fun r hr' => ?_, fun r hr' => ?_⟩⟩
  · rcases List.mem_cons.1 hr' with rfl | hr'
    · exact Ro.cut (ok.s.rds _ hr)
    · exact ok.s.rds r hr'
  · rcases List.mem_cons.1 hr' with rfl | hr'
    · exact ok.s.rod ⟨b, o, sz, xs⟩ hr
    · exact ok.s.rod r hr'
  · rcases List.mem_cons.1 hr' with rfl | hr'
    · exact ok.s.rok ⟨b, o, sz, xs⟩ hr
    · exact ok.s.rok r hr'
theorem pv_cut_s {l h m : Nat} {s : ByteArray} {lo hi : Option Operand} [hT : TStr P T] (hx : opd fr x = some (.string s)) (hb : Bnds fr s.size s.size lo hi none l h m) : Pv P ⟨fr, hp, ro⟩ (.slice T x lo hi none) (.string (s.extract l h)) :=
  fun N E a w dst ty pos af g ok => by
  simp only [execOp, ok.h.eval hx, Instr.sliceAt, Sem.run_bind, run_underlying hT.h, Result.andThen_ok, Instr.slice, Option.map_none, Option.isSome_none, Bool.false_eq_true, if_false]
  have := hb.run (P := P) (w := w) (isS := false) ok.h (by intro h; cases h)
  simp only [Option.map_none] at this
  simp only [Sem.run_bind, this, Result.andThen_ok, Sem.run_pure]
/-- a made slice -/
theorem wo_make {d e sz by_ l c : Nat} {z : List Value} {zl zc : Int} {k k' : IntKind} [hT : TSl P T e sz by_] [hZ : TZ P e z] (hx : opd fr x = some (.int k zl)) (hl : zl = (l : Int)) (hy : opd fr y = some (.int k' zc)) (hc : zc = (c : Int)) (hlc : l ≤ c) (hb : by_ * c ≤ 140737488355328)
    (hm : c ≤ 4611686018427387904) (hz : Nat.beq z.length sz = true) (ho : allOne z = true) (hd : Nat.ble (d + 1) N = true)
    (h : ∀ b, WO P N E ops rest ⟨(d, .slice (some ⟨b, 0, none⟩) l c) :: fr, .own e sz (some ⟨b, 0, none⟩) l c (List.replicate l z) :: hp, ro⟩ Kn) : WO P N E ops (⟨some d, .makeSlice T x y, ty, pos, af, none⟩ :: rest) ⟨fr, hp, ro⟩ Kn :=
  wo_eff (L := []) (.refl _) hd fun a w ok => by
    subst hl; subst hc
    obtain ⟨i, zz, h1, h2, h3, h4, h5, h6, h7⟩ := sl_und hT.h
    obtain ⟨zv, hzv, hzc⟩ := run_zeroValue (P := P) (T := e) (w := w)
    have hz := Nat.eq_of_beq_eq_true hz
    have hrow : RowsOk sz (List.replicate l z) := fun r hr => by
      obtain ⟨_, rfl⟩ := List.mem_replicate.1 hr
      exact ⟨hz, allOne_mem ho⟩
    have hsz : (sizeOf e).run P w = .ok sz w := by simp [sizeOf, typeInfo, h2, h5, go_sem]
    have hti : (typeInfo e).run P w = .ok i w := by simp [typeInfo, h2, go_sem]
    have hlw : IntKind.i64.wrap (l : Int) = (l : Int) := IntWalk.i64_in _ (by omega)
    have hcw : IntKind.i64.wrap (c : Int) = (c : Int) := IntWalk.i64_in _ (by omega)
    have hbi : ¬ ((by_ : Int) * (c : Int) > 2 ^ 48) := by
      have : (by_ : Int) * (c : Int) = ((by_ * c : Nat) : Int) := by simp
      rw [this]; omega
    refine ⟨.slice (some ⟨w.heap.size, 0, none⟩) l c, [.own e sz (some ⟨w.heap.size, 0, none⟩) l c (List.replicate l z)], w.alloc (.cells ((Array.range (c * sz)).map (fun j => z.toArray[j % sz]!)) e), ?_, ?_, h _⟩
    · simp only [execOp, ok.h.eval hx, ok.h.eval hy, Instr.makeSlice, asInt, asIntOf, Sem.run_bind, run_underlying h1, Result.andThen_ok, Sem.run_pure, hti, hlw, hcw, h6]
      have c1 : ¬ ((decide ((c : Int) < 0) || decide ((by_ : Int) * (c : Int) > 2 ^ 48)) || decide ((l : Int) < 0) || decide ((l : Int) > (c : Int))) = true := by
        simp only [Bool.or_eq_true, decide_eq_true_eq, not_or]
        exact ⟨⟨⟨by omega, hbi⟩, by omega⟩, by omega⟩
      rw [if_neg c1]
      have hask : ∀ b, (askRoom b).run P w = .ok () w := by intro b; unfold askRoom; split <;> rfl
      have hzs : z.toArray.size = sz := by simp [hz]
      by_cases h0 : c * sz = 0
      · simp only [Sem.run_bind, hask, Result.andThen_ok, Int.toNat_natCast, hsz, h0, if_true, Sem.run_pure]
        have hr1 : ∀ f : Nat → Value, (Array.range 0).map f = #[] := fun f => by simp
        simp only [hr1]
        rfl
      · simp only [Sem.run_bind, hask, Result.andThen_ok, Int.toNat_natCast, hsz, h0, if_false, Sem.run_pure, hzv, hzc, hzs]
        rfl
    · refine Sat.one ⟨rfl, rfl, rfl, by simp, fun k hk _ => Below.heap_alloc w _ k hk⟩ ?_ (fun b hb => .inr (by simp only [It.foot, Option.map_some, Option.some.injEq] at hb; omega))
      refine ⟨by simp, hrow, hlc, by unfold maxLen; omega, (fun h => by cases h), fun ad had => ?_⟩
      simp only [Option.some.injEq] at had
      subst had
      refine ⟨rfl, _, heap_alloc_new w _, by simp, (seg_iff hrow.lens).2 ?_⟩
      intro i row hi j u hj
      rw [List.getElem?_replicate] at hi
      split at hi
      · rename_i hil
        simp only [Option.some.injEq] at hi
        subst hi
        have hjl : j < sz := by have := (List.getElem?_eq_some_iff.1 hj).1; omega
        have h8 : (i + 1) * sz ≤ c * sz := Nat.mul_le_mul_right _ (by omega)
        rw [Nat.add_mul] at h8
        have h9 : (i * sz + j) % sz = j := by rw [Nat.mul_comm, Nat.mul_add_mod, Nat.mod_eq_of_lt hjl]
        have h10 : i * sz + j < c * sz := by omega
        simp [h10, h9]
        have := (List.getElem?_eq_some_iff.1 hj)
        obtain ⟨g1, g2⟩ := this
        simp [g1, g2]
      · cases hi
end

end Go.Proofs.Ytlhlidmhlhodiaa

/-
  Sparse frames: strings, arrays with a computed index. No program in sight.
-/
namespace Go.Proofs.Ytlhlidmhlhodiaa
set_option linter.unusedSimpArgs false
set_option linter.unusedVariables false
open Go.RowKit

section
variable {P : Program} {fr : List (Nat × Value)} {hp : List It} {ro : List Ro} {T t t' : TypeId} {x y c : Operand} {v u : Value} {F : List It}
theorem str_beq (a b : ByteArray) : (a.toList == b.toList) = decide (a = b) := by
  rw [ByteArray.toList_eq, ByteArray.toList_eq]
  rw [Bool.eq_iff_iff]
  simp only [beq_iff_eq, decide_eq_true_eq]
  exact ⟨fun h => ByteArray.ext (Array.toList_inj.mp h), fun h => by rw [h]⟩
theorem pv_eql_s {a b : ByteArray} (hx : opd fr x = some (.string a)) (hy : opd fr y = some (.string b)) : Pv P ⟨fr, hp, ro⟩ (.binOp .eql t x y t') (.bool (decide (a = b))) := fun N E ac w dst ty pos af g ok => by
  simp only [execOp, ok.h.eval hx, ok.h.eval hy]; simp [eqGuard, binOp, Op.stringOp, str_beq, go_sem]
theorem pv_neq_s {a b : ByteArray} (hx : opd fr x = some (.string a)) (hy : opd fr y = some (.string b)) : Pv P ⟨fr, hp, ro⟩ (.binOp .neq t x y t') (.bool (decide (a ≠ b))) := fun N E ac w dst ty pos af g ok => by
  simp only [execOp, ok.h.eval hx, ok.h.eval hy]; simp [eqGuard, binOp, Op.stringOp, str_beq, go_sem]
theorem pv_add_s {a b : ByteArray} (hx : opd fr x = some (.string a)) (hy : opd fr y = some (.string b)) (h : a.size + b.size ≤ 9223372036854775807) : Pv P ⟨fr, hp, ro⟩ (.binOp .add t x y t') (.string (a ++ b)) := fun N E ac w dst ty pos af g ok => by
  simp only [execOp, ok.h.eval hx, ok.h.eval hy]; simp [eqGuard, binOp, Op.stringOp, go_sem]; omega
theorem pv_idx_ar_e {n e sz bl o : Nat} {k : IntKind} {z : Int} (i : Nat) [h : TAr P t n e sz] (hx : opd fr x = some (.pointer (some ⟨bl, o, none⟩))) (hy : opd fr y = some (.int k z)) (hz : z = (i : Int)) (hi : i < n) (hn : 1 < n) :
    Pv P ⟨fr, hp, ro⟩ (.indexAddr t x y) (.pointer (some ⟨bl, o + i * sz, none⟩)) := by subst hz; exact pv_idx_ar hx hy hi hn
end
end Go.Proofs.Ytlhlidmhlhodiaa

/-
  Sparse frames: regions that draw their order and change memory. Each operation either only reads what nobody in the region changes, or changes the items of one class; operations of one class wait for one another. One walk in the text's order serves every order.
-/
namespace Go.Proofs.Ytlhlidmhlhodiaa
set_option linter.unusedSimpArgs false
set_option linter.unusedVariables false
open Go.RowKit

def upd (m : Nat → List It) (c : Nat) (M : List It) : Nat → List It := fun d => bif Nat.beq c d then M else m d
theorem upd_self (m : Nat → List It) (c : Nat) (M : List It) : upd m c M c = M := by simp [upd]
theorem upd_ne (m : Nat → List It) {c d : Nat} (M : List It) (h : c ≠ d) : upd m c M d = m d := by
  have : Nat.beq c d = false := by
    cases hb : Nat.beq c d with
    | false => rfl
    | true => exact absurd (Nat.eq_of_beq_eq_true hb) h
  simp [upd, this]
theorem upd_comm (m : Nat → List It) {c d : Nat} (M M' : List It) (h : c ≠ d) : upd (upd m c M) d M' = upd (upd m d M') c M := by
  funext k
  by_cases h1 : c = k
  · subst h1; rw [upd_ne _ _ (Ne.symm h), upd_self, upd_self]
  · by_cases h2 : d = k
    · subst h2; rw [upd_self, upd_ne _ _ h1, upd_self]
    · rw [upd_ne _ _ h2, upd_ne _ _ h1, upd_ne _ _ h1, upd_ne _ _ h2]

section
variable (P : Program) (E : Env) (B0 : List It) (ro : List Ro)
def Hp (cs : List Nat) (m : Nat → List It) : List It := B0 ++ cs.flatMap m
def PV (o : Oper) (a : Act) (v : Value) : Prop := ∀ F w, Sat E.B E.S E.T (B0 ++ F) ro w → (execOp a.eval o).run P w = .ok (.value v) w
def outcU (F : List It) (Post : Value → List It → Prop) (w : World) : Result Next → Prop
  | .ok (.value v) w' => ∃ M, Post v M ∧ Sat E.B E.S E.T (M ++ (B0 ++ F)) ro w'
  | .ok .skip w' => ∃ M, Post undef M ∧ Sat E.B E.S E.T (M ++ (B0 ++ F)) ro w'
  | .ok (.enter f args) w' => w' = w ∧ Calls P f args w fun e w'' => ∃ v M, e = .returned v ∧ Post v M ∧ Sat E.B E.S E.T (M ++ (B0 ++ F)) ro w''
  | _ => False
def Outc (o : Oper) (a : Act) (L : List It) (Post : Value → List It → Prop) : Prop :=
  ∀ F w, Sat E.B E.S E.T (L ++ (B0 ++ F)) ro w → outcU P E B0 ro F Post w ((execOp a.eval o).run P w)
variable (ops : Array Oper) (cls : Nat → Option Nat) (tbl : Nat → List It → Value → List It → Prop)
def safe (i : Nat) (o : Oper) (a : Act) (m : Nat → List It) : Prop :=
  if Region.wanted o (yielded ops a.tmps) then
    match cls i with
    | none => ∃ v, PV P E B0 ro o a v
    | some c => (∃ v M, tbl i (m c) v M) ∧ Outc P E B0 ro o a (m c) (tbl i (m c))
  else True
def outm (i : Nat) (o : Oper) (a : Act) (m : Nat → List It) (v : Value) (m' : Nat → List It) : Prop :=
  if Region.wanted o (yielded ops a.tmps) then
    match cls i with
    | none => PV P E B0 ro o a v ∧ m' = m
    | some c => ∃ M, tbl i (m c) v M ∧ m' = upd m c M
  else v = undef ∧ m' = m
def rOp (i : Nat) (K : Act → (Nat → List It) → Prop) (a : Act) (m : Nat → List It) : Prop :=
  ∀ o, ops[i]? = some o → safe P E B0 ro ops cls tbl i o a m ∧ ∀ v m', outm P E B0 ro ops cls tbl i o a m v m' → K (a.put o.dst v) m'
end
section
variable {P : Program} {E : Env} {B0 : List It} {ro : List Ro} {ops : Array Oper} {cls : Nat → Option Nat} {tbl : Nat → List It → Value → List It → Prop} {md : Region.Mode}
theorem safe_out {i : Nat} {o : Oper} {a : Act} {m : Nat → List It} (h : safe P E B0 ro ops cls tbl i o a m) : ∃ v m', outm P E B0 ro ops cls tbl i o a m v m' := by
  unfold safe at h
  unfold outm
  split at h
  · rename_i hw
    simp only [hw, if_true]
    cases hc : cls i with
    | none => rw [hc] at h; simp only at h ⊢; obtain ⟨v, hv⟩ := h; exact ⟨v, m, hv, rfl⟩
    | some c => rw [hc] at h; simp only at h ⊢; obtain ⟨⟨v, M, hv⟩, _⟩ := h; exact ⟨v, _, M, hv, rfl⟩
  · rename_i hw
    simp only [hw]
    exact ⟨undef, m, rfl, rfl⟩
theorem rOp_mono {i : Nat} {a : Act} {m : Nat → List It} {K K' : Act → (Nat → List It) → Prop} (h : ∀ a m, K a m → K' a m) (hh : rOp P E B0 ro ops cls tbl i K a m) : rOp P E B0 ro ops cls tbl i K' a m :=
  fun o ho => ⟨(hh o ho).1, fun v m' hv => h _ _ ((hh o ho).2 v m' hv)⟩
section
variable {i j : Nat} {oi oj : Oper} {a : Act} {m m' : Nat → List It} {u v : Value} {dst : Option Tmp}
theorem safe_put (hs : ∀ cs b, oj.op ≠ .select cs b) (h : ∀ d, dst = some d → d ∉ oj.looksAt ops) : safe P E B0 ro ops cls tbl j oj (a.put dst v) m = safe P E B0 ro ops cls tbl j oj a m := by
  unfold safe PV Outc
  rw [wanted_put oj a dst v h, execOp_put oj hs a dst v h]
theorem out_put (hs : ∀ cs b, oj.op ≠ .select cs b) (h : ∀ d, dst = some d → d ∉ oj.looksAt ops) : outm P E B0 ro ops cls tbl j oj (a.put dst v) m u m' = outm P E B0 ro ops cls tbl j oj a m u m' := by
  unfold outm PV
  rw [wanted_put oj a dst v h, execOp_put oj hs a dst v h]
/-- what one operation does leaves the classes of the others alone -/
theorem out_other (h : outm P E B0 ro ops cls tbl i oi a m v m') {c : Nat} (hc : cls i ≠ some c) : m' c = m c := by
  unfold outm at h
  split at h
  · cases hi : cls i with
    | none => rw [hi] at h; rw [h.2]
    | some d =>
      rw [hi] at h
      obtain ⟨M, _, rfl⟩ := h
      exact upd_ne _ _ (fun e => hc (by rw [hi, e]))
  · rw [h.2]
theorem safe_other (h : outm P E B0 ro ops cls tbl i oi a m v m') (hc : ∀ c, cls i = some c → cls j ≠ some c) : safe P E B0 ro ops cls tbl j oj a m' = safe P E B0 ro ops cls tbl j oj a m := by
  unfold safe
  split
  · cases hj : cls j with
    | none => rfl
    | some c => simp only; rw [out_other h (fun e => hc c e hj)]
  · rfl
theorem out_diamond {m1 m2 : Nat → List It} (hc : ∀ c, cls i = some c → cls j ≠ some c) (h1 : outm P E B0 ro ops cls tbl j oj a m u m1) (h2 : outm P E B0 ro ops cls tbl i oi a m1 v m2) :
    ∃ m3, outm P E B0 ro ops cls tbl i oi a m v m3 ∧ outm P E B0 ro ops cls tbl j oj a m3 u m2 := by
  have key : (∀ c, cls i = some c → m1 c = m c) := fun c hi => out_other h1 (hc c hi)
  unfold outm at h1 h2 ⊢
  by_cases wi : Region.wanted oi (yielded ops a.tmps) = true
  · simp only [wi, if_true] at h2 ⊢
    by_cases wj : Region.wanted oj (yielded ops a.tmps) = true
    · simp only [wj, if_true] at h1 ⊢
      cases hi : cls i with
      | none =>
        rw [hi] at h2
        simp only at h2 ⊢
        obtain ⟨h2, rfl⟩ := h2
        exact ⟨m, ⟨h2, rfl⟩, h1⟩
      | some c =>
        rw [hi] at h2
        simp only at h2 ⊢
        obtain ⟨M, h2, rfl⟩ := h2
        rw [key c hi] at h2
        refine ⟨upd m c M, ⟨M, h2, rfl⟩, ?_⟩
        cases hj : cls j with
        | none => rw [hj] at h1; simp only at h1 ⊢; exact ⟨h1.1, by rw [h1.2]⟩
        | some d =>
          rw [hj] at h1
          simp only at h1 ⊢
          obtain ⟨M', h1, rfl⟩ := h1
          have hne : c ≠ d := fun e => hc c hi (by rw [hj, e])
          exact ⟨M', by rw [upd_ne _ _ hne]; exact h1, upd_comm m M' M (Ne.symm hne)⟩
    · simp only [wj] at h1 ⊢
      obtain ⟨rfl, rfl⟩ := h1
      exact ⟨m2, h2, rfl, rfl⟩
  · simp only [wi] at h2 ⊢
    obtain ⟨rfl, rfl⟩ := h2
    exact ⟨m, ⟨rfl, rfl⟩, h1⟩
theorem rOp_swap {K : Act → (Nat → List It) → Prop} (hi : ops[i]? = some oi) (hj : ops[j]? = some oj) (hap : oi.apart ops oj = true) (hc : ∀ c, cls i = some c → cls j ≠ some c) (hsi : ∀ cs b, oi.op ≠ .select cs b) (hsj : ∀ cs b, oj.op ≠ .select cs b)
    (H : rOp P E B0 ro ops cls tbl i (rOp P E B0 ro ops cls tbl j K) a m) : rOp P E B0 ro ops cls tbl j (rOp P E B0 ro ops cls tbl i K) a m := by
  obtain ⟨h1, h2, h3⟩ := Oper.apart_spec hap
  obtain ⟨Hs, Ho⟩ := H oi hi
  intro o ho
  obtain rfl : oj = o := by rw [hj] at ho; exact Option.some.inj ho
  refine ⟨?_, fun u m1 hu o ho => ?_⟩
  · obtain ⟨v, m1, hv⟩ := safe_out Hs
    have := (Ho v m1 hv oj hj).1
    rw [safe_put hsj h1, safe_other hv hc] at this
    exact this
  · obtain rfl : oi = o := by rw [hi] at ho; exact Option.some.inj ho
    refine ⟨?_, fun v m2 hv => ?_⟩
    · rw [safe_put hsi h3, safe_other hu (fun c e e' => hc c e' e)]
      exact Hs
    · rw [out_put hsi h3] at hv
      obtain ⟨m3, h4, h5⟩ := out_diamond hc hu hv
      have := (Ho v m3 h4 oj hj).2 u m2 (by rw [out_put hsj h1]; exact h5)
      rw [← Act.put_comm a v u h2]
      exact this
end
def wpAnyR (P : Program) (E : Env) (B0 : List It) (ro : List Ro) (ops : Array Oper) (cls : Nat → Option Nat) (tbl : Nat → List It → Value → List It → Prop) (md : Region.Mode) (Q : Act → (Nat → List It) → Prop) : Nat → Array Bool → Act → (Nat → List It) → Prop
  | 0, listed, a, m => Region.ready md ops listed = [] ∧ Q a m
  | fuel + 1, listed, a, m => (Region.ready md ops listed = [] → Q a m) ∧ ∀ i ∈ Region.ready md ops listed, rOp P E B0 ro ops cls tbl i (wpAnyR P E B0 ro ops cls tbl md Q fuel (listed.setIfInBounds i true)) a m
/-- what an operation waits for is listed ahead of it -/
def Closed (md : Region.Mode) (ops : Array Oper) (listed : Array Bool) : Prop := ∀ j oj, ops[j]? = some oj → listed.getD j true = true → ∀ e ∈ oj.after, Region.binds md e = true → listed.getD e.on false = true
theorem getD_false_of {listed : Array Bool} {j k : Nat} (h : listed.getD k false = true) : (listed.setIfInBounds j true).getD k false = true := by
  have hk : k < listed.size := by
    rcases Nat.lt_or_ge k listed.size with h' | h'
    · exact h'
    · simp [Array.getD, Nat.not_lt.2 h'] at h
  by_cases hjk : j = k
  · subst hjk; simp [Array.getD, hk]
  · simp [Array.getD, hk] at h ⊢
    rw [Array.getElem_setIfInBounds_ne (by simpa using hk) hjk]; exact h
theorem Closed.set {listed : Array Bool} (h : Closed md ops listed) {j : Nat} (hj : j ∈ Region.ready md ops listed) : Closed md ops (listed.setIfInBounds j true) := by
  intro k ok hk hl e he hb
  obtain ⟨_, oj, hoj, hall⟩ := mem_ready.1 hj
  by_cases hjk : j = k
  · subst hjk
    rw [hoj] at hk
    obtain rfl := Option.some.inj hk
    exact getD_false_of (hall e he hb)
  · rw [getD_set_ne true hjk] at hl
    exact getD_false_of (h k ok hk hl e he hb)
/-- j waits for i, directly or through others -/
def reachB (md : Region.Mode) (ops : Array Oper) (i : Nat) : Nat → Nat → Bool
  | 0, _ => false
  | n + 1, j => ((ops[j]?).map fun o => o.after.any fun e => Region.binds md e && (e.on == i || reachB md ops i n e.on)).getD false
theorem reach_not {listed : Array Bool} (hc : Closed md ops listed) {i : Nat} (hi : listed.getD i true = false) (his : i < listed.size) : ∀ (n j : Nat), reachB md ops i n j = true → ∃ oj, ops[j]? = some oj ∧ ∃ e ∈ oj.after, Region.binds md e = true ∧ listed.getD e.on false = false
  | 0, _, h => by simp [reachB] at h
  | n + 1, j, h => by
    unfold reachB at h
    cases hj : ops[j]? with
    | none => rw [hj] at h; simp at h
    | some oj =>
      rw [hj] at h
      simp only [Option.map_some, Option.getD_some] at h
      rw [Array.any_eq_true'] at h
      obtain ⟨e, he, h⟩ := h
      rw [Bool.and_eq_true] at h
      obtain ⟨hb, h⟩ := h
      refine ⟨oj, rfl, e, he, hb, ?_⟩
      rw [Bool.or_eq_true] at h
      rcases h with h | h
      · have h := beq_iff_eq.1 h
        rw [h]
        simp [Array.getD, his] at hi ⊢
        exact hi
      · obtain ⟨o2, h2, e2, he2, hb2, hl2⟩ := reach_not hc hi his n e.on h
        cases hx : listed.getD e.on false with
        | false => rfl
        | true =>
          have hlt : e.on < listed.size := by
            rcases Nat.lt_or_ge e.on listed.size with h' | h'
            · exact h'
            · simp [Array.getD, Nat.not_lt.2 h'] at hx
          have := hc e.on o2 h2 (by simp [Array.getD, hlt] at hx ⊢; exact hx) e2 he2 hb2
          rw [hl2] at this; cases this
theorem wpAnyR_first {Q : Act → (Nat → List It) → Prop} {i : Nat} {oi : Oper} (hi : ops[i]? = some oi) (hsel : ∀ (j : Nat) (o : Oper) cs b, ops[j]? = some o → o.op ≠ .select cs b)
    (hcls : ∀ (j : Nat) (listed : Array Bool), j ≠ i → Closed md ops listed → (∀ k, k < i → listed.getD k true = true) → listed.getD i true = false → j ∈ Region.ready md ops listed → ∀ c, cls i = some c → cls j ≠ some c) :
    ∀ (fuel : Nat) (listed : Array Bool) (a : Act) (m : Nat → List It), Closed md ops listed → (∀ k, k < i → listed.getD k true = true) →
      (∀ j oj, ops[j]? = some oj → j ≠ i → listed.getD j true = false → (∀ e ∈ oj.after, Region.binds md e = true → e.on ≠ i) → oi.apart ops oj = true) →
      i ∈ Region.ready md ops listed → rOp P E B0 ro ops cls tbl i (wpAnyR P E B0 ro ops cls tbl md Q fuel (listed.setIfInBounds i true)) a m → wpAnyR P E B0 ro ops cls tbl md Q (fuel + 1) listed a m := by
  intro fuel
  induction fuel with
  | zero =>
    intro listed a m _ _ _ hr H
    refine ⟨fun h => (by rw [h] at hr; cases hr), fun j hj => ?_⟩
    by_cases hji : j = i
    · subst hji; exact H
    · have := ready_mono hj hji
      obtain ⟨hs, ho⟩ := H oi hi
      obtain ⟨v, m', hv⟩ := safe_out hs
      rw [(ho v m' hv).1] at this
      cases this
  | succ fuel ih =>
    intro listed a m hcl hpre hfree hr H
    refine ⟨fun h => (by rw [h] at hr; cases hr), fun j hj => ?_⟩
    by_cases hji : j = i
    · subst hji; exact H
    · obtain ⟨hjun, oj, hoj, hall⟩ := mem_ready.1 hj
      have hnot : ∀ e ∈ oj.after, Region.binds md e = true → e.on ≠ i := fun e he hb heq => by
        have h1 := hall e he hb
        have h0 := (mem_ready.1 hr).1
        rw [heq] at h1
        rcases Nat.lt_or_ge i listed.size with h' | h'
        · simp [h'] at h0 h1; rw [h0] at h1; cases h1
        · simp [Array.getElem?_eq_none h'] at h1
      have h1 := rOp_mono (fun a' m' h => h.2 j (ready_mono hj hji)) H
      have f1 := hfree j oj hoj hji hjun hnot
      have f2 := hcls j listed hji hcl hpre (mem_ready.1 hr).1 hj
      have h2 := rOp_swap hi hoj f1 f2 (fun cs b => hsel i oi cs b hi) (fun cs b => hsel j oj cs b hoj) h1
      refine rOp_mono (fun a' m' h3 => ih (listed.setIfInBounds j true) a' m' (hcl.set hj) (fun k hk => ?_) (fun k ok hk hki hun hno => ?_) (ready_mono hr (Ne.symm hji)) ?_) h2
      · by_cases hjk : j = k
        · subst hjk
          rcases Nat.lt_or_ge j listed.size with h2 | h2
          · simp [h2]
          · simp [h2]
        · rw [getD_set_ne true hjk]; exact hpre k hk
      · refine hfree k ok hk hki ?_ hno
        by_cases hjk : j = k
        · subst hjk; exact hjun
        · rw [getD_set_ne true hjk] at hun; exact hun
      · rw [Array.setIfInBounds_comm _ _ hji]
        exact h3
def wpR (P : Program) (E : Env) (B0 : List It) (ro : List Ro) (ops : Array Oper) (cls : Nat → Option Nat) (tbl : Nat → List It → Value → List It → Prop) (Q : Act → (Nat → List It) → Prop) : List Oper → Nat → Act → (Nat → List It) → Prop
  | [], _, a, m => Q a m
  | o :: l, k, a, m => rOp P E B0 ro ops cls tbl k (wpR P E B0 ro ops cls tbl Q l (k + 1)) a m
/-- operations of one class wait for the earlier ones, directly or through others -/
def clsB (md : Region.Mode) (ops : Array Oper) (cls : Nat → Option Nat) : Bool :=
  (List.range ops.size).all fun j => (List.range j).all fun i => match cls i, cls j with
    | some c, some d => c != d || reachB md ops i ops.size j
    | _, _ => true
theorem clsB_spec (h : clsB md ops cls = true) {i j : Nat} {oj : Oper} (hj : ops[j]? = some oj) (hij : i < j) {c : Nat} (hi : cls i = some c) (hcj : cls j = some c) : reachB md ops i ops.size j = true := by
  unfold clsB at h
  rw [List.all_eq_true] at h
  have h1 := h j (by have := (Array.getElem?_eq_some_iff.1 hj).1; simpa using this)
  rw [List.all_eq_true] at h1
  have h2 := h1 i (by simpa using hij)
  rw [hi, hcj] at h2
  simpa using h2
theorem lex_lt {k : Nat} {listed : Array Bool} (hl : ∀ j, j < k → listed.getD j true = true) {j : Nat} (hj : listed.getD j true = false) : k ≤ j := by
  rcases Nat.lt_or_ge j k with h | h
  · rw [hl j h] at hj; cases hj
  · exact h
theorem closed0 : Closed md ops (Array.replicate ops.size false) := fun j oj hj hl => by
  have := (Array.getElem?_eq_some_iff.1 hj).1
  simp [Array.getD, this] at hl
theorem wpAnyR_lex {Q : Act → (Nat → List It) → Prop} (hs : Region.noSelect ops = true) (hcl : clsB md ops cls = true) : ∀ (l : List Oper) (k : Nat) (listed : Array Bool) (a : Act) (m : Nat → List It), Closed md ops listed → ops.size = listed.size → (∀ j, l[j]? = ops[k + j]?) → (∀ j, j < k → listed.getD j true = true) →
    Region.lexFrom md ops l.length k listed = true → wpR P E B0 ro ops cls tbl Q l k a m → wpAnyR P E B0 ro ops cls tbl md Q l.length listed a m
  | [], _, _, _, _, _, _, _, _, hB, h => ⟨by simpa [Region.lexFrom] using hB, h⟩
  | o :: l, k, listed, a, m, hC, hz, hl, hk, hB, h => by
    have h0 : ops[k]? = some o := by simpa using (hl 0).symm
    simp only [List.length_cons, Region.lexFrom, Bool.and_eq_true] at hB
    obtain ⟨⟨hr, hf⟩, hB'⟩ := hB
    have hr' : k ∈ Region.ready md ops listed := by simpa using hr
    refine wpAnyR_first h0 (Region.noSelect_spec hs) (fun j ld hjk hCl hpre hun hj c hc hcj => ?_) l.length listed a m hC hk (fun j oj hj hjk hun hno => Region.free_spec h0 hf j oj hj hjk hun hno) hr' ?_
    · obtain ⟨hjun, oj, hoj, hall⟩ := mem_ready.1 hj
      have hle := lex_lt hpre hjun
      have hks : k < ld.size := by
        rcases Nat.lt_or_ge k ld.size with h' | h'
        · exact h'
        · simp [Array.getD, Nat.not_lt.2 h'] at hun
      obtain ⟨o2, h2, e, he, hb, hne⟩ := reach_not hCl hun hks _ _ (clsB_spec hcl hoj (show k < j by omega) hc hcj)
      rw [hoj] at h2
      obtain rfl := Option.some.inj h2
      rw [hall e he hb] at hne; cases hne
    · refine rOp_mono (fun a' m' h' => wpAnyR_lex hs hcl l (k + 1) _ a' m' (hC.set hr') (by simpa using hz) (fun j => by have := hl (j + 1); simpa [Nat.add_assoc, Nat.add_comm 1 j] using this) (fun j hj => ?_) hB' h') h
      rcases Nat.lt_or_ge j k with h1 | h1
      · rw [getD_set_ne true (show k ≠ j by omega)]; exact hk j h1
      · obtain rfl : j = k := by omega
        rcases Nat.lt_or_ge j listed.size with h2 | h2
        · simp [h2]
        · simp [h2]
theorem flat_upd {cs : List Nat} (hn : cs.Nodup) {c : Nat} (hc : c ∈ cs) (m : Nat → List It) : (cs.flatMap m).Perm (m c ++ (cs.erase c).flatMap m) := by
  have := (List.perm_cons_erase hc).flatMap_right m
  simpa using this
theorem flat_same {cs : List Nat} (hn : cs.Nodup) {c : Nat} (m : Nat → List It) (M : List It) : (cs.erase c).flatMap (upd m c M) = (cs.erase c).flatMap m := by
  have : ∀ d ∈ cs.erase c, upd m c M d = m d := fun d hd => upd_ne _ _ (fun e => by subst e; exact (hn.not_mem_erase) hd)
  rw [List.flatMap_def, List.flatMap_def, List.map_congr_left this]
theorem wpAny_of_R {cs : List Nat} (hn : cs.Nodup) (hcs : ∀ i c, cls i = some c → c ∈ cs) {Q : Act → (Nat → List It) → Prop} {Q' : Exit → Act → World → Prop} (hQ : ∀ a m w, Sat E.B E.S E.T (Hp B0 cs m) ro w → Q a m → Q' .normal a w) :
    ∀ (fuel : Nat) (listed : Array Bool) (a : Act) (m : Nat → List It) (w : World), Sat E.B E.S E.T (Hp B0 cs m) ro w → wpAnyR P E B0 ro ops cls tbl md Q fuel listed a m → wpAny P md ops Q' fuel listed a w
  | 0, _, _, _, _, hw, h => ⟨h.1, hQ _ _ _ hw h.2⟩
  | fuel + 1, listed, a, m, w, hw, h => ⟨fun h0 => hQ _ _ _ hw (h.1 h0), fun i hi => by
    obtain ⟨_, o, ho, _⟩ := mem_ready.1 hi
    obtain ⟨hs, hk⟩ := h.2 i hi o ho
    have ih := wpAny_of_R hn hcs hQ fuel (listed.setIfInBounds i true)
    unfold wpOp
    simp only [ho]
    unfold safe at hs
    unfold outm at hk
    split
    · rename_i hwt
      simp only [hwt, if_true] at hs hk
      refine .inl ?_
      cases hc : cls i with
      | none =>
        rw [hc] at hs hk
        obtain ⟨v, hv⟩ := hs
        unfold Oper.wp
        rw [hv _ w hw]
        exact ih _ _ _ hw (hk v m ⟨hv, rfl⟩)
      | some c =>
        rw [hc] at hs hk
        simp only at hs hk
        have hp1 : (Hp B0 cs m).Perm (m c ++ (B0 ++ (cs.erase c).flatMap m)) := by
          unfold Hp
          exact ((flat_upd hn (hcs i c hc) m).append_left B0).trans (by rw [← List.append_assoc, ← List.append_assoc]; exact List.perm_append_comm.append_right _)
        have hp2 : ∀ M, (M ++ (B0 ++ (cs.erase c).flatMap m)).Perm (Hp B0 cs (upd m c M)) := fun M => by
          unfold Hp
          refine List.Perm.trans ?_ ((flat_upd hn (hcs i c hc) (upd m c M)).append_left B0).symm
          rw [upd_self, flat_same hn, ← List.append_assoc, ← List.append_assoc]
          exact List.perm_append_comm.append_right _
        have h1 := hs.2 _ w (hw.perm hp1)
        unfold Oper.wp
        generalize (execOp a.eval o).run P w = r at h1
        cases r with
        | ok n w' =>
          cases n <;> simp only [outcU] at h1 <;> simp only [Oper.upon] <;> first | exact h1.elim | skip
          case value u => obtain ⟨M, h2, h3⟩ := h1; exact ih _ _ _ (h3.perm (hp2 M)) (hk _ _ ⟨M, h2, rfl⟩)
          case skip => obtain ⟨M, h2, h3⟩ := h1; exact ih _ _ _ (h3.perm (hp2 M)) (hk _ _ ⟨M, h2, rfl⟩)
          case enter f args =>
            obtain ⟨rfl, h2⟩ := h1
            refine h2.mono fun e w'' ⟨v, M, he, h3, h4⟩ => ?_
            subst he
            exact ih _ _ _ (h4.perm (hp2 M)) (hk _ _ ⟨M, h3, rfl⟩)
        | halt x w' => simp only [outcU] at h1
    · rename_i hwt
      simp only [hwt] at hk
      exact ih _ _ _ hw (hk undef m ⟨rfl, rfl⟩)⟩
/-! the derivation: one walk over sparse frames -/
def GOk (ops : Array Oper) (fr : List (Nat × Value)) (g : Option (Nat × Bool)) : Prop := g = none ∨ ∃ j s b, g = some (j, b) ∧ gslot ops j = some s ∧ fget fr s = some (.bool b)
theorem gok_none {fr : List (Nat × Value)} : GOk ops fr none := .inl rfl
theorem gok_run {fr : List (Nat × Value)} {j s : Nat} {b : Bool} (hg : gslot ops j = some s) (hs : fget fr s = some (.bool b)) : GOk ops fr (some (j, b)) := .inr ⟨j, s, b, rfl, hg, hs⟩
theorem GOk.wanted {N : Nat} {fr : List (Nat × Value)} {dst : Option Tmp} {op : Op} {ty : TypeId} {pos : String} {af : Array Edge} {g : Option (Nat × Bool)} (h : GOk ops fr g) {a : Act} (ha : Holds N fr a) : Region.wanted (⟨dst, op, ty, pos, af, g⟩ : Oper) (yielded ops a.tmps) = true := by
  rcases h with rfl | ⟨j, s, b, rfl, hg, hs⟩
  · simp [Region.wanted]
  · simp [Region.wanted, yielded_of ha hg hs]
inductive HdE (P : Program) (N : Nat) (E : Env) (B0 : List It) (ro : List Ro) (ops : Array Oper) (cls : Nat → Option Nat) (tbl : Nat → List It → Value → List It → Prop) (K : List (Nat × Value) → (Nat → List It) → Prop) : Nat → List Oper → List (Nat × Value) → (Nat → List It) → Prop
  | nil {k fr m} (h : K fr m) : HdE P N E B0 ro ops cls tbl K k [] fr m
  | val {k fr m op ty pos af rest d v g} (hd : Nat.ble (d + 1) N = true) (hc : cls k = none) (hg : GOk ops fr g) (hv : Pv P ⟨fr, B0, ro⟩ op v) (h : HdE P N E B0 ro ops cls tbl K (k + 1) rest ((d, v) :: fr) m) :
      HdE P N E B0 ro ops cls tbl K k (⟨some d, op, ty, pos, af, g⟩ :: rest) fr m
  | eff {k fr m dst op ty pos af rest c L g} (hc : cls k = some c) (hm : m c = L) (hd : dstOk dst N = true) (hg : GOk ops fr g) (ho : ∀ a, Holds N fr a → Outc P E B0 ro ⟨dst, op, ty, pos, af, g⟩ a L (tbl k L)) (hin : ∃ v M, tbl k L v M)
      (h : ∀ v M, tbl k L v M → HdE P N E B0 ro ops cls tbl K (k + 1) rest (putF dst v fr) (upd m c M)) : HdE P N E B0 ro ops cls tbl K k (⟨dst, op, ty, pos, af, g⟩ :: rest) fr m
  | skip {k fr m d op ty pos af rest j s b c} (hg : gslot ops j = some s) (hs : fget fr s = some (.bool b)) (hb : (b == c) = false) (hd : Nat.ble (d + 1) N = true) (h : HdE P N E B0 ro ops cls tbl K (k + 1) rest ((d, undef) :: fr) m) :
      HdE P N E B0 ro ops cls tbl K k (⟨some d, op, ty, pos, af, some (j, c)⟩ :: rest) fr m
  | skipu {k fr m d op ty pos af rest j s c} (hg : gslot ops j = some s) (hs : fget fr s = some undef) (hd : Nat.ble (d + 1) N = true) (h : HdE P N E B0 ro ops cls tbl K (k + 1) rest ((d, undef) :: fr) m) :
      HdE P N E B0 ro ops cls tbl K k (⟨some d, op, ty, pos, af, some (j, c)⟩ :: rest) fr m
  | dec {k fr m rest s} {p : Prop} [Decidable p] (hs : fget fr s = some (.bool (decide p))) (ht : p → HdE P N E B0 ro ops cls tbl K k rest ((s, .bool true) :: fr) m) (hf : ¬p → HdE P N E B0 ro ops cls tbl K k rest ((s, .bool false) :: fr) m) :
      HdE P N E B0 ro ops cls tbl K k rest fr m
theorem HdE.sound {N : Nat} {K : List (Nat × Value) → (Nat → List It) → Prop} {k : Nat} {l : List Oper} {fr : List (Nat × Value)} {m : Nat → List It} (h : HdE P N E B0 ro ops cls tbl K k l fr m) (hw0 : ∃ F w, Sat E.B E.S E.T (B0 ++ F) ro w) {Q : Act → (Nat → List It) → Prop}
    (hQ : ∀ fr a m, K fr m → Holds N fr a → Q a m) : (∀ j, l[j]? = ops[k + j]?) → ∀ a, Holds N fr a → wpR P E B0 ro ops cls tbl Q l k a m := by
  have shift : ∀ {o : Oper} {l : List Oper} {k : Nat}, (∀ j, (o :: l)[j]? = ops[k + j]?) → ops[k]? = some o ∧ ∀ j, l[j]? = ops[k + 1 + j]? := fun h =>
    ⟨by simpa using (h 0).symm, fun j => by have := h (j + 1); simpa [Nat.add_assoc, Nat.add_comm 1 j] using this⟩
  induction h with
  | nil h => exact fun _ a ha => hQ _ a _ h ha
  | @val k fr m op ty pos af rest d v g hd hc hg hv _ ih =>
    intro hl a ha o ho
    obtain ⟨h0, hl'⟩ := shift hl
    rw [h0] at ho
    obtain rfl := Option.some.inj ho
    have hpv : PV P E B0 ro ⟨some d, op, ty, pos, af, g⟩ a v := fun F w hw => hv N E a w _ _ _ _ _ ⟨ha, hw.left⟩
    unfold safe outm
    simp only [hg.wanted ha, if_true, hc]
    refine ⟨⟨v, hpv⟩, fun v' m' ⟨hv', hm'⟩ => ?_⟩
    subst hm'
    obtain ⟨F, w, hw⟩ := hw0
    have e : v' = v := by
      have h1 := hpv F w hw
      have h2 := hv' F w hw
      rw [h1] at h2
      injection h2 with h2 _
      injection h2 with h2
      exact h2.symm
    subst e
    exact ih hl' _ (ha.put (Nat.le_of_ble_eq_true hd) _)
  | @eff k fr m dst op ty pos af rest c L g hc hm hd hg ho hin _ ih =>
    intro hl a ha o ho'
    obtain ⟨h0, hl'⟩ := shift hl
    rw [h0] at ho'
    obtain rfl := Option.some.inj ho'
    unfold safe outm
    simp only [hg.wanted ha, if_true, hc, hm]
    refine ⟨⟨hin, ho a ha⟩, fun v' m' ⟨M, hv', hm'⟩ => ?_⟩
    subst hm'
    exact ih v' M hv' hl' _ (ha.putF hd _)
  | @skip k fr m d op ty pos af rest j s b c hg hs hb hd _ ih =>
    intro hl a ha o ho
    obtain ⟨h0, hl'⟩ := shift hl
    rw [h0] at ho
    obtain rfl := Option.some.inj ho
    have hwt : ¬ Region.wanted (⟨some d, op, ty, pos, af, some (j, c)⟩ : Oper) (yielded ops a.tmps) = true := by simp [Region.wanted, yielded_of ha hg hs]; simpa using hb
    unfold safe outm
    simp only [hwt]
    refine ⟨trivial, fun v' m' ⟨hv', hm'⟩ => ?_⟩
    subst hv'; subst hm'
    exact ih hl' _ (ha.put (Nat.le_of_ble_eq_true hd) _)
  | @skipu k fr m d op ty pos af rest j s c hg hs hd _ ih =>
    intro hl a ha o ho
    obtain ⟨h0, hl'⟩ := shift hl
    rw [h0] at ho
    obtain rfl := Option.some.inj ho
    have hwt : ¬ Region.wanted (⟨some d, op, ty, pos, af, some (j, c)⟩ : Oper) (yielded ops a.tmps) = true := by simp [Region.wanted, yielded_undef ha hg hs]
    unfold safe outm
    simp only [hwt]
    refine ⟨trivial, fun v' m' ⟨hv', hm'⟩ => ?_⟩
    subst hv'; subst hm'
    exact ih hl' _ (ha.put (Nat.le_of_ble_eq_true hd) _)
  | @dec k fr m rest s p _ hs _ _ iht ihf =>
    intro hl a ha
    by_cases hp : p
    · exact iht hp hl a (ha.same hs (by simp [hp]))
    · exact ihf hp hl a (ha.same hs (by simp [hp]))
theorem wc_reg {N : Nat} {fr : List (Nat × Value)} {hp : List It} {Kn Kr : St → Prop} {Kx : List (Nat × (St → Prop))} {id : Nat} {l : List Oper} (cs : List Nat) (cls : Nat → Option Nat) (tbl : Nat → List It → Value → List It → Prop) (B0 : List It) (m0 : Nat → List It)
    (hm : P.follows .mixedOrders = true) (hB : Region.lexB .any l.toArray = true) (hcl : clsB .any l.toArray cls = true) (hn : cs.Nodup) (hcs : ∀ i c, cls i = some c → c ∈ cs) (hperm : hp.Perm (Hp B0 cs m0))
    (h : HdE P N E B0 ro l.toArray cls tbl (fun fr m => ∀ H, H = Hp B0 cs m → Kn ⟨fr, H, ro⟩) 0 l fr m0) : WC P N E (.region id l.toArray true) ⟨fr, hp, ro⟩ Kn Kx Kr := fun a w ok => by
  simp only [Region.lexB, Bool.and_eq_true] at hB
  have hw : Sat E.B E.S E.T (Hp B0 cs m0) ro _ := (ok.s.drawn (w.drawn + 1)).perm hperm
  refine wp_region_any hm (wpAny_of_R (ro := ro) (tbl := tbl) (Q := fun a m => ∃ fr', Kn ⟨fr', Hp B0 cs m, ro⟩ ∧ Holds N fr' a) hn hcs (fun a m w' hs ⟨fr', hk, ha⟩ => ⟨_, hk, ha, hs⟩) _ _ a m0 _ hw ?_)
  have := wpAnyR_lex (P := P) (E := E) (B0 := B0) (ro := ro) (tbl := tbl) (md := .any) hB.1 hcl l 0 (Array.replicate l.toArray.size false) a m0 closed0 (by simp) (by simp) (fun j hj => by omega) (by simpa using hB.2)
    (h.sound (Q := fun a m => ∃ fr', Kn ⟨fr', Hp B0 cs m, ro⟩ ∧ Holds N fr' a) ⟨_, _, hw⟩ (fun fr a m hk ha => ⟨fr, hk _ rfl, ha⟩) (by simp) a ok.h)
  simpa using this
/-- a call, as what one operation of such a region does -/
theorem outc_call {N : Nat} {fr : List (Nat × Value)} {f : FuncId} [HasBody P f] {vs : List Value} {L Lc F1 : List It} {R : List Ro} {Post : Value → List It → List Ro → Prop} {T : Value → List It → Prop} {l : List Operand} {ats : Array TypeId} {dst : Option Tmp} {ty : TypeId} {pos : String} {af : Array Edge} {g : Option (Nat × Bool)}
    (hF : Fn P f vs.toArray L R Post) (ha : opdL fr l = some vs) (hs : (Lc ++ B0).Perm (L ++ F1)) (hr : ∀ r ∈ R, r ∈ ro) (hT : ∀ v L' R', Post v L' R' → ∃ M, T v M ∧ (L' ++ F1).Perm (M ++ B0)) :
    ∀ a, Holds N fr a → Outc P E B0 ro ⟨dst, .call ⟨.value (.func f), l.toArray, ats⟩, ty, pos, af, g⟩ a Lc T := fun a hh F w hw => by
  rw [HasBody.enter w, hh.evalL ha]
  refine ⟨rfl, ?_⟩
  have hp1 : (Lc ++ (B0 ++ F)).Perm (L ++ (F1 ++ F)) := by
    rw [← List.append_assoc, ← List.append_assoc]; exact hs.append_right F
  have hw1 := hw.perm hp1
  refine (hF w (hw1.start (.refl _) hr)).mono fun e w' ⟨v, L', R', he, hP, hS⟩ => ?_
  obtain ⟨M, h1, h2⟩ := hT v L' R' hP
  have h3 := (hw1.step (.refl _) (fun b hb => by obtain ⟨r, h1, h2⟩ := mem_blks.1 hb; exact mem_blks.2 ⟨r, hr r h1, h2⟩) hS).some_ro (fun r hr => List.mem_append_right _ hr)
  refine ⟨v, M, he, h1, h3.perm ?_⟩
  rw [← List.append_assoc, ← List.append_assoc]
  exact h2.append_right F
/-- a store into an owned slice -/
theorem outc_st_ownf {N : Nat} {fr : List (Nat × Value)} {T : TypeId} {x y : Operand} {v : Value} {dst : Option Tmp} {ty : TypeId} {pos : String} {af : Array Edge} {g : Option (Nat × Bool)} {b o i j sz n c : Nat} {t : TypeId} {xs : List (List Value)} {row row' : List Value} [TOne P T]
    (hx : opd fr x = some (.pointer (some ⟨b, elt o i sz + j, none⟩))) (hy : opd fr y = some v) (h1 : v.oneCell' = true) (hi : xs[i]? = some row) (hl : SetAt row j v row') :
    ∀ a, Holds N fr a → Outc P E B0 ro ⟨dst, .store T x y, ty, pos, af, g⟩ a [.own t sz (some ⟨b, o, none⟩) n c xs] (fun u M => u = undef ∧ M = [.own t sz (some ⟨b, o, none⟩) n c (xs.set i row')]) := fun a hh F w hw => by
    have hS : OwnSat w t sz (some ⟨b, o, none⟩) n c xs := hw.get (.refl _)
    obtain ⟨cur, hc, hfit⟩ := hS.fit hi
    have hsp := hl.lay.spec.1
    have hrow := hS.rows.lens row (List.mem_of_getElem? hi)
    have hfit2 : elt o i sz + j + [v].length ≤ cur.size := by simp at hsp ⊢; omega
    obtain ⟨w', h2, h3, h4⟩ := run_storeAt_lay (P := P) (T := T) (r := [v]) (cells_one h1) run_sizeOf_one hc hfit2 (by simpa using h1)
    have e : (execOp a.eval ⟨dst, .store T x y, ty, pos, af, g⟩).run P w = .ok .skip w' := by
      simp only [execOp, hh.eval hx, hh.eval hy, Sem.run_bind, h2]; rfl
    rw [e]
    refine ⟨_, ⟨rfl, rfl⟩, ?_⟩
    exact (hw.step (L := [_]) (T' := []) (.refl _) (by simp) (Sat.reown h4 (cells_stored hS hc hi hl.lay (by simpa using h1) h3 hfit2))).some_ro (fun r hr => by simpa using hr)
section
variable {N : Nat} {K : List (Nat × Value) → (Nat → List It) → Prop} {k : Nat} {rest : List Oper} {fr : List (Nat × Value)} {m : Nat → List It} {dst : Option Tmp} {op : Op} {ty : TypeId} {pos : String} {af : Array Edge} {j s : Nat} {c : Bool} {p : Prop} [Decidable p]
theorem he_gt (hg : gslot ops j = some s) (hs : fget fr s = some (.bool (decide p))) (hp' : p) (h : HdE P N E B0 ro ops cls tbl K k (⟨dst, op, ty, pos, af, some (j, c)⟩ :: rest) ((s, .bool true) :: fr) m) : HdE P N E B0 ro ops cls tbl K k (⟨dst, op, ty, pos, af, some (j, c)⟩ :: rest) fr m :=
  .dec hs (fun _ => h) (fun hn => absurd hp' hn)
theorem he_gf (hg : gslot ops j = some s) (hs : fget fr s = some (.bool (decide p))) (hp' : ¬p) (h : HdE P N E B0 ro ops cls tbl K k (⟨dst, op, ty, pos, af, some (j, c)⟩ :: rest) ((s, .bool false) :: fr) m) : HdE P N E B0 ro ops cls tbl K k (⟨dst, op, ty, pos, af, some (j, c)⟩ :: rest) fr m :=
  .dec hs (fun h => absurd h hp') (fun _ => h)
end
end
def asl : List (Nat × Nat) → Nat → Option Nat
  | [], _ => none
  | (i, c) :: l, k => bif Nat.beq i k then some c else asl l k
theorem asl_mem {cs : List Nat} : ∀ {l : List (Nat × Nat)}, (l.all fun p => cs.contains p.2) = true → ∀ i c, asl l i = some c → c ∈ cs
  | [], _, _, _, h => by cases h
  | (i, c) :: l, hl, k, d, h => by
    simp only [List.all_cons, Bool.and_eq_true] at hl
    unfold asl at h
    cases hb : Nat.beq i k with
    | true => rw [hb] at h; simp only [cond_true, Option.some.injEq] at h; subst h; simpa using hl.1
    | false => rw [hb] at h; exact asl_mem hl.2 k d h
theorem upd_01 (m M) : upd m 0 M 1 = m 1 := rfl
theorem upd_10 (m M) : upd m 1 M 0 = m 0 := rfl
theorem upd_02 (m M) : upd m 0 M 2 = m 2 := rfl
theorem upd_20 (m M) : upd m 2 M 0 = m 0 := rfl
theorem upd_12 (m M) : upd m 1 M 2 = m 2 := rfl
theorem upd_21 (m M) : upd m 2 M 1 = m 1 := rfl
theorem prm_cons {hp hp1 L : List It} {x : It} (hs : hp.Perm (x :: hp1)) (h : hp1.Perm L) : hp.Perm (x :: L) := hs.trans (h.cons x)
end Go.Proofs.Ytlhlidmhlhodiaa

/-
  Sparse frames: where ways meet again.
-/
namespace Go.Proofs.Ytlhlidmhlhodiaa
set_option linter.unusedSimpArgs false
set_option linter.unusedVariables false
open Go.RowKit
theorem wc_join {P : Program} {N : Nat} {E : Env} {x y : Code} {st : St} {Kn Kr Kr2 : St → Prop} {Kx Kx2 : List (Nat × (St → Prop))} (J : St → Prop) (h : WC P N E x st (fun st' => ∃ st'', Wk st' st'' ∧ J st'') Kx Kr) (hy : ∀ st'', J st'' → WC P N E y st'' Kn Kx2 Kr2) :
    WC P N E x st (fun st' => WC P N E y st' Kn Kx2 Kr2) Kx Kr := fun a w ok =>
  Code.wp_mono (fun e a w q => by
    cases e with
    | normal =>
      obtain ⟨st', ⟨st'', h1, h2⟩, ok'⟩ := q
      exact ⟨st', fun a2 w2 ok2 => hy st'' h2 a2 w2 (ok2.weak h1), ok'⟩
    | _ => exact q) (h a w ok)
theorem pv_conv_rs {P : Program} {fr : List (Nat × Value)} {hp : List It} {ro : List Ro} {t t' : TypeId} {x : Operand} {k : IntKind} {a : Int} [TInt P t k] [ht : TStr P t'] (hx : opd fr x = some (.int k a)) : Pv P ⟨fr, hp, ro⟩ (.convert t t' x) (.string (Utf8.encode a)) := fun N E ac w dst ty pos af g ok => by
  simp only [execOp, ok.h.eval hx]; simp [convert, run_underlying (TInt.h (P := P) (T := t)), run_underlying ht.h, Conv.intToString, go_sem]
/-- the same, for a part that leaves by no way but its end (or a return): the rest of the code is out of sight in it -/
theorem wc_join0 {P : Program} {N : Nat} {E : Env} {x y : Code} {st : St} {Kn Kr Kr2 : St → Prop} {Kx Kx2 : List (Nat × (St → Prop))} (J : St → Prop) (h : WC P N E x st (fun st' => ∃ st'', Wk st' st'' ∧ J st'') [] Kr) (hy : ∀ st'', J st'' → WC P N E y st'' Kn Kx2 Kr2) :
    WC P N E x st (fun st' => WC P N E y st' Kn Kx2 Kr2) Kx Kr := fun a w ok =>
  Code.wp_mono (fun e a w q => by
    cases e with
    | normal =>
      obtain ⟨st', ⟨st'', h1, h2⟩, ok'⟩ := q
      exact ⟨st', fun a2 w2 ok2 => hy st'' h2 a2 w2 (ok2.weak h1), ok'⟩
    | exit id => obtain ⟨st', K, h1, _⟩ := q; cases h1
    | _ => exact q) (h a w ok)
end Go.Proofs.Ytlhlidmhlhodiaa

/-
  Sparse frames: the lemmas once more, with the classes as premises behind what fixes them, so that 'apply' can use them ('exact' with a wrong lemma costs a tenth of a second).
-/
namespace Go.Proofs.Ytlhlidmhlhodiaa
set_option linter.unusedSimpArgs false
set_option linter.unusedVariables false
open Go.RowKit
theorem eqr {α : Sort _} (a : α) : a = a := rfl
section
variable {P : Program} {fr : List (Nat × Value)} {hp : List It} {ro : List Ro} {T : TypeId} {x y c : Operand} {v u : Value} {F : List It} {k k' : IntKind} {a b lo hi m : Int} {t t' : TypeId}
theorem a_add (hx : opd fr x = some (.int k a)) (hy : opd fr y = some (.int k b)) (hk : KB k lo hi) (h : lo ≤ a + b ∧ a + b ≤ hi) : Pv P ⟨fr, hp, ro⟩ (.binOp .add t x y t') (.int k (a + b)) := pv_add hx hy h
theorem a_sub (hx : opd fr x = some (.int k a)) (hy : opd fr y = some (.int k b)) (hk : KB k lo hi) (h : lo ≤ a - b ∧ a - b ≤ hi) : Pv P ⟨fr, hp, ro⟩ (.binOp .sub t x y t') (.int k (a - b)) := pv_sub hx hy h
theorem a_mul (hx : opd fr x = some (.int k a)) (hy : opd fr y = some (.int k b)) (hk : KB k lo hi) (h : lo ≤ a * b ∧ a * b ≤ hi) : Pv P ⟨fr, hp, ro⟩ (.binOp .mul t x y t') (.int k (a * b)) := pv_mul hx hy h
theorem a_quo (hx : opd fr x = some (.int k a)) (hy : opd fr y = some (.int k b)) (hk : KB k lo hi) (h : 0 ≤ a ∧ 1 ≤ b ∧ lo ≤ 0 ∧ a ≤ hi) : Pv P ⟨fr, hp, ro⟩ (.binOp .quo t x y t') (.int k (a / b)) := pv_quo hx hy h
theorem a_add_u (hx : opd fr x = some (.int k a)) (hy : opd fr y = some (.int k b)) (hk : KU k m) : Pv P ⟨fr, hp, ro⟩ (.binOp .add t x y t') (.int k ((a + b) % m)) := pv_add_u hx hy
theorem a_sub_u (hx : opd fr x = some (.int k a)) (hy : opd fr y = some (.int k b)) (hk : KU k m) : Pv P ⟨fr, hp, ro⟩ (.binOp .sub t x y t') (.int k ((a - b) % m)) := pv_sub_u hx hy
theorem a_mul_u (hx : opd fr x = some (.int k a)) (hy : opd fr y = some (.int k b)) (hk : KU k m) : Pv P ⟨fr, hp, ro⟩ (.binOp .mul t x y t') (.int k ((a * b) % m)) := pv_mul_u hx hy
theorem a_neg (hx : opd fr x = some (.int k a)) (hk : KB k lo hi) (h : lo ≤ -a ∧ -a ≤ hi) : Pv P ⟨fr, hp, ro⟩ (.unOp .neg t x) (.int k (-a)) := pv_neg hx h
theorem a_conv (hx : opd fr x = some (.int k a)) (h1 : TInt P t k) (h2 : TInt P t' k') (hk : KB k' lo hi) (h : lo ≤ a ∧ a ≤ hi) : Pv P ⟨fr, hp, ro⟩ (.convert t t' x) (.int k' a) := pv_conv hx h
theorem a_conv_u (hx : opd fr x = some (.int k a)) (h1 : TInt P t k) (h2 : TInt P t' k') (hk : KU k' m) : Pv P ⟨fr, hp, ro⟩ (.convert t t' x) (.int k' (a % m)) := pv_conv_u hx
theorem a_conv_w (hx : opd fr x = some (.int k a)) (h1 : TInt P t k) (h2 : TInt P t' k') : Pv P ⟨fr, hp, ro⟩ (.convert t t' x) (.int k' (k'.wrap a)) := pv_conv_w hx
theorem a_not_d {p : Prop} {d : Decidable p} (hx : opd fr x = some (.bool (@decide p d))) : Pv P ⟨fr, hp, ro⟩ (.unOp .not t x) (.bool (decide (¬p))) := pv_not_d hx
end
section
variable {P : Program} {N : Nat} {E : Env} {fr : List (Nat × Value)} {hp : List It} {ro : List Ro} {Kn Kr : St → Prop} {Kx : List (Nat × (St → Prop))} {ops : Array Oper} {rest : List Oper} {dst : Option Tmp} {op : Op} {ty : TypeId} {pos : String} {af : Array Edge} {j s : Nat} {c : Bool} {p : Prop} {d : Decidable p} {o : Operand} {x y : Code}
theorem a_gt (hg : gslot ops j = some s) (hs : fget fr s = some (.bool (@decide p d))) (hpp : p) (h : WO P N E ops (⟨dst, op, ty, pos, af, some (j, c)⟩ :: rest) ⟨(s, .bool true) :: fr, hp, ro⟩ Kn) : WO P N E ops (⟨dst, op, ty, pos, af, some (j, c)⟩ :: rest) ⟨fr, hp, ro⟩ Kn := wo_gt hg hs hpp h
theorem a_gf (hg : gslot ops j = some s) (hs : fget fr s = some (.bool (@decide p d))) (hpp : ¬p) (h : WO P N E ops (⟨dst, op, ty, pos, af, some (j, c)⟩ :: rest) ⟨(s, .bool false) :: fr, hp, ro⟩ Kn) : WO P N E ops (⟨dst, op, ty, pos, af, some (j, c)⟩ :: rest) ⟨fr, hp, ro⟩ Kn := wo_gf hg hs hpp h
theorem a_dec_t (hc : opd fr o = some (.bool (@decide p d))) (hpp : p) (h : WC P N E x ⟨fr, hp, ro⟩ Kn Kx Kr) : WC P N E (.cond o x y) ⟨fr, hp, ro⟩ Kn Kx Kr := wc_dec_t hc hpp h
theorem a_dec_f (hc : opd fr o = some (.bool (@decide p d))) (hpp : ¬p) (h : WC P N E y ⟨fr, hp, ro⟩ Kn Kx Kr) : WC P N E (.cond o x y) ⟨fr, hp, ro⟩ Kn Kx Kr := wc_dec_f hc hpp h
variable {calls : Bool} {K : List (Nat × Value) → Prop}
theorem ah_gt (hg : gslot ops j = some s) (hs : fget fr s = some (.bool (@decide p d))) (hp' : p) (h : Hd P N calls ops hp ro K (⟨dst, op, ty, pos, af, some (j, c)⟩ :: rest) ((s, .bool true) :: fr)) : Hd P N calls ops hp ro K (⟨dst, op, ty, pos, af, some (j, c)⟩ :: rest) fr := hd_gt hg hs hp' h
theorem ah_gf (hg : gslot ops j = some s) (hs : fget fr s = some (.bool (@decide p d))) (hp' : ¬p) (h : Hd P N calls ops hp ro K (⟨dst, op, ty, pos, af, some (j, c)⟩ :: rest) ((s, .bool false) :: fr)) : Hd P N calls ops hp ro K (⟨dst, op, ty, pos, af, some (j, c)⟩ :: rest) fr := hd_gf hg hs hp' h
variable {B0 : List It} {cls : Nat → Option Nat} {tbl : Nat → List It → Value → List It → Prop} {K : List (Nat × Value) → (Nat → List It) → Prop} {k : Nat} {m : Nat → List It}
theorem ae_gt (hg : gslot ops j = some s) (hs : fget fr s = some (.bool (@decide p d))) (hp' : p) (h : HdE P N E B0 ro ops cls tbl K k (⟨dst, op, ty, pos, af, some (j, c)⟩ :: rest) ((s, .bool true) :: fr) m) : HdE P N E B0 ro ops cls tbl K k (⟨dst, op, ty, pos, af, some (j, c)⟩ :: rest) fr m := he_gt hg hs hp' h
theorem ae_gf (hg : gslot ops j = some s) (hs : fget fr s = some (.bool (@decide p d))) (hp' : ¬p) (h : HdE P N E B0 ro ops cls tbl K k (⟨dst, op, ty, pos, af, some (j, c)⟩ :: rest) ((s, .bool false) :: fr) m) : HdE P N E B0 ro ops cls tbl K k (⟨dst, op, ty, pos, af, some (j, c)⟩ :: rest) fr m := he_gf hg hs hp' h
end
end Go.Proofs.Ytlhlidmhlhodiaa

/-
  What the arguments of a law read as: integers with their bounds; slices as rows of cells. No program in sight.
-/
namespace Go.Proofs.Ytlhlidmhlhodiaa
set_option linter.unusedSimpArgs false
set_option linter.unusedVariables false
open Go.ChangeShapes Go.WideShapes Go.ChangeAt Go.RowKit Go.Deep

theorem bd_u8 {a : Int} (h : (Lit.int .u8 a).wf = true) : 0 ≤ a ∧ a ≤ 255 := by simpa [Lit.wf, IntKind.min, IntKind.max, IntKind.signed, IntKind.bits] using h
theorem bd_u16 {a : Int} (h : (Lit.int .u16 a).wf = true) : 0 ≤ a ∧ a ≤ 65535 := by simpa [Lit.wf, IntKind.min, IntKind.max, IntKind.signed, IntKind.bits] using h
theorem bd_u32 {a : Int} (h : (Lit.int .u32 a).wf = true) : 0 ≤ a ∧ a ≤ 4294967295 := by simpa [Lit.wf, IntKind.min, IntKind.max, IntKind.signed, IntKind.bits] using h
theorem bd_u64 {a : Int} (h : (Lit.int .u64 a).wf = true) : 0 ≤ a ∧ a ≤ 18446744073709551615 := by simpa [Lit.wf, IntKind.min, IntKind.max, IntKind.signed, IntKind.bits] using h
theorem bd_i16 {a : Int} (h : (Lit.int .i16 a).wf = true) : -32768 ≤ a ∧ a ≤ 32767 := by simpa [Lit.wf, IntKind.min, IntKind.max, IntKind.signed, IntKind.bits] using h
theorem bd_i32 {a : Int} (h : (Lit.int .i32 a).wf = true) : -2147483648 ≤ a ∧ a ≤ 2147483647 := by simpa [Lit.wf, IntKind.min, IntKind.max, IntKind.signed, IntKind.bits] using h
theorem bd_i64 {a : Int} (h : (Lit.int .i64 a).wf = true) : -9223372036854775808 ≤ a ∧ a ≤ 9223372036854775807 := by simpa [Lit.wf, IntKind.min, IntKind.max, IntKind.signed, IntKind.bits] using h

/-- a value of a kind with one cell -/
def FKok : TypeDesc → Value → Prop
  | .int k, v => ∃ n, v = .int k n ∧ (Lit.int k n).wf = true
  | .bool, v => ∃ b, v = .bool b
  | .string, v => ∃ s : ByteArray, v = .string s ∧ s.size ≤ maxLen
  | _, _ => False

/-- a slice that came in: n elements, each as many cells as 'ks' has kinds; cell j of element i holds 'V i j' -/
def Rws (ks : List TypeDesc) (w : World) (A : Option Addr) (n c : Nat) (V : Nat → Nat → Value) : Prop :=
  n ≤ c ∧ c ≤ maxLen ∧ (0 < n → ∃ b o, A = some ⟨b, o, none⟩ ∧ b < w.heap.size ∧ ∀ i j, i < n → j < ks.length → w.cell? ⟨b, o + (i * ks.length + j), none⟩ = some (V i j)) ∧
    ∀ i j k, i < n → ks[j]? = some k → FKok k (V i j)

theorem Rws.below {ks : List TypeDesc} {w w' : World} {A : Option Addr} {n c : Nat} {V : Nat → Nat → Value} (h : Rws ks w A n c V) (hb : Below w.heap.size w w') : Rws ks w' A n c V := by
  obtain ⟨h1, h2, h3, h4⟩ := h
  refine ⟨h1, h2, fun hn => ?_, h4⟩
  obtain ⟨b, o, rfl, hlt, hc⟩ := h3 hn
  exact ⟨b, o, rfl, Nat.lt_of_lt_of_le hlt hb.size, fun i j hi hj => (World.cell?_of_block (hb.block b hlt)).trans (hc i j hi hj)⟩

section
variable {H : Type} {enc : TypeId × Value → H} {P : Program} {W : World} {t e : TypeId} {a : Option Addr} {len cap : Nat} {d : DataW H} {p : List MemPlace}

theorem fk_of {k : TypeDesc} {f : TypeId} {n : Nat} {v : Value} {y : DataW H × List MemPlace} {base : Nat} {spare : Nat → Bool} {held : Bool} (hk : P.underlying f = some k) (hks : k = .bool ∨ k = .string ∨ ∃ q, k = .int q)
    (h : DataW.trod enc P W base spare held n f [v] = some y) : FKok k v := by
  rcases hks with rfl | rfl | ⟨q, rfl⟩
  · obtain ⟨b, hb, _⟩ := DataW.trod_bool hk h
    exact ⟨b, by simpa using hb⟩
  · obtain ⟨s, hs, _, hl⟩ := DataW.trod_string hk h
    exact ⟨s, by simpa using hs, hl⟩
  · obtain ⟨z, hz, _, hl⟩ := DataW.trod_int hk h
    exact ⟨z, by simpa using hz, hl⟩

def plainKinds (ks : List TypeDesc) : Bool := ks.all fun | .bool => true | .string => true | .int _ => true | _ => false
theorem plain_of {ks : List TypeDesc} (h : plainKinds ks = true) {j : Nat} {k : TypeDesc} (hj : ks[j]? = some k) : k = .bool ∨ k = .string ∨ ∃ q, k = .int q := by
  have := List.all_eq_true.1 h k (List.mem_of_getElem? hj)
  cases k <;> simp_all

theorem rws_of {ks : List TypeDesc} {x : Addr} (h0 : 0 < ks.length) (hl : len ≤ cap) (hc : cap ≤ maxLen)
    (h : ∀ i j k, i < len → ks[j]? = some k → ∃ v, W.cell? (x.add (i * ks.length + j)) = some v ∧ FKok k v) : ∃ V, Rws ks W (some x) len cap V := by
  have hat : ∀ i j, i < len → j < ks.length → W.cell? (x.add (i * ks.length + j)) = some ((W.cell? (x.add (i * ks.length + j))).getD .nilFunc) := by
    intro i j hi hj
    obtain ⟨v, hv, _⟩ := h i j ks[j] hi (List.getElem?_eq_getElem hj)
    rw [hv]; rfl
  refine ⟨fun i j => (W.cell? (x.add (i * ks.length + j))).getD .nilFunc, hl, hc, fun hn => ?_, fun i j k hi hj => ?_⟩
  · have h00 := hat 0 0 hn h0
    have hs : x.spot = none := World.cell?_spot (by simpa [Addr.add] using h00)
    obtain ⟨b, o, s⟩ := x
    simp only at hs
    subst hs
    have hblk : b < W.heap.size := by
      rcases Nat.lt_or_ge b W.heap.size with hb | hb
      · exact hb
      · have : W.cell? ((⟨b, o, none⟩ : Addr).add (0 * ks.length + 0)) = none := by
          simp [Addr.add, World.cell?, Array.getElem?_eq_none hb]
        rw [this] at h00; simp at h00
    refine ⟨b, o, rfl, hblk, fun i j hi hj => ?_⟩
    have := hat i j hi hj
    have e : (⟨b, o, none⟩ : Addr).add (i * ks.length + j) = ⟨b, o + (i * ks.length + j), none⟩ := by
      unfold Addr.add; split
      · rename_i h; simp [h]
      · rfl
    show _ = some ((W.cell? ((⟨b, o, none⟩ : Addr).add (i * ks.length + j))).getD .nilFunc)
    rw [← e]; exact this
  · obtain ⟨v, hv, hf⟩ := h i j k hi hj
    simp only [hv, Option.getD_some]
    exact hf

theorem open_rws_struct {fs : Array Field} {ks : List TypeDesc} (ht : P.underlying t = some (.slice e)) (he : P.underlying e = some (.struct fs)) (hone : oneCellFields P fs = true) (hC : P.cellsOf e = fs.size)
    (hk : (fs.toList.map fun f => P.underlying f.type) = ks.map some ∧ plainKinds ks = true ∧ 0 < ks.length)
    (h : DataW.Trod enc P W 0 (fun _ => true) true t (.slice a len cap) d p) : ∃ V, Rws ks W a len cap V := by
  obtain ⟨hks, hpl, h0⟩ := hk
  have hsz : fs.size = ks.length := by simpa using congrArg List.length hks
  obtain ⟨fuel, hf⟩ := h
  rcases open_slice ht hf with ⟨hcs, _⟩ | ⟨x, l, c, m, n, D, Pl, hcs, _, hl, hm, hmm, _, hi⟩
  · simp [Value.cells] at hcs
    obtain ⟨rfl, rfl, rfl⟩ := hcs
    exact ⟨fun _ _ => .nilFunc, Nat.le_refl _, by simp [maxLen], fun h => absurd h (by omega), fun i _ _ h => absurd h (by omega)⟩
  · simp [Value.cells] at hcs
    obtain ⟨rfl, rfl, rfl⟩ := hcs
    refine rws_of h0 hl hm fun i j k hil hj => ?_
    obtain ⟨cs', hc, ht'⟩ := hi i (by simp at hmm; omega)
    obtain ⟨ys, n', _, _, hlen, hyl, hff⟩ := DataW.trod_struct he ht'
    obtain ⟨_, hcl, hat⟩ := World.cells?_some hc
    rw [hC, hsz] at hcl hat
    have hjl : j < ks.length := (List.getElem?_eq_some_iff.1 hj).1
    obtain ⟨f, hfj⟩ : ∃ f, fs[j]? = some f := ⟨fs[j], Array.getElem?_eq_getElem (by omega)⟩
    obtain ⟨ho, hkc⟩ := hone_of hone j f hfj
    have hcell := hat j hjl
    have hv : cs'[j]? = some (cs'[j]'(by omega)) := List.getElem?_eq_getElem (by omega)
    have h1 := hff j f hfj
    rw [ho, hkc] at h1
    have hd1 : (cs'.drop j).take 1 = [cs'[j]'(by omega)] := by
      rw [List.drop_eq_getElem_cons (by omega)]; rfl
    rw [hd1] at h1
    have hys : ys[j]? = some (ys[j]'(by omega)) := List.getElem?_eq_getElem (by omega)
    have hu : P.underlying f.type = some k := by
      have e1 := congrArg (fun l => l[j]?) hks
      simp only [List.getElem?_map, Array.getElem?_toList, hfj, hj, Option.map_some] at e1
      injection e1
    refine ⟨cs'[j]'(by omega), ?_, fk_of hu (plain_of hpl hj) (h1.trans hys)⟩
    have hadd : x.add (i * ks.length + j) = (x.add (i * ks.length)).add j := by rw [Go.Deep.add_add]
    rw [hadd, hcell, hv]

theorem open_rws_one {k : TypeDesc} (ht : P.underlying t = some (.slice e)) (hk : P.underlying e = some k ∧ plainKinds [k] = true) (hC : P.cellsOf e = 1)
    (h : DataW.Trod enc P W 0 (fun _ => true) true t (.slice a len cap) d p) : ∃ V, Rws [k] W a len cap V := by
  obtain ⟨hu, hpl⟩ := hk
  obtain ⟨fuel, hf⟩ := h
  rcases open_slice1 ht hC hf with ⟨hcs, _⟩ | ⟨x, l, c, m, n, V, D, Pl, hcs, _, hl, hm, hmm, _, hi⟩
  · simp [Value.cells] at hcs
    obtain ⟨rfl, rfl, rfl⟩ := hcs
    exact ⟨fun _ _ => .nilFunc, Nat.le_refl _, by simp [maxLen], fun h => absurd h (by omega), fun i _ _ h => absurd h (by omega)⟩
  · simp [Value.cells] at hcs
    obtain ⟨rfl, rfl, rfl⟩ := hcs
    refine rws_of (by simp) hl hm fun i j k' hil hj => ?_
    have hj0 : j = 0 := by
      have := (List.getElem?_eq_some_iff.1 hj).1
      simp at this; omega
    subst hj0
    simp at hj
    subst hj
    obtain ⟨h1, h2⟩ := hi i (by simp at hmm; omega)
    exact ⟨V i, by simpa using h1, fk_of hu (plain_of hpl (j := 0) rfl) h2⟩
end

/-- an element's cells at hand -/
theorem Rws.at1 {k : TypeDesc} {w : World} {A : Option Addr} {n c : Nat} {V : Nat → Nat → Value} (h : Rws [k] w A n c V) {i : Nat} (hi : i < n) :
    ∃ b o, A = some ⟨b, o, none⟩ ∧ b < w.heap.size ∧ FKok k (V i 0) ∧ w.cell? ⟨b, o + i, none⟩ = some (V i 0) := by
  obtain ⟨_, _, h3, h4⟩ := h
  obtain ⟨b, o, rfl, hlt, hc⟩ := h3 (by omega)
  exact ⟨b, o, rfl, hlt, h4 i 0 k hi rfl, by simpa using hc i 0 hi (by simp)⟩
theorem Rws.at2 {k0 k1 : TypeDesc} {w : World} {A : Option Addr} {n c : Nat} {V : Nat → Nat → Value} (h : Rws [k0, k1] w A n c V) {i : Nat} (hi : i < n) :
    ∃ b o, A = some ⟨b, o, none⟩ ∧ b < w.heap.size ∧ FKok k0 (V i 0) ∧ FKok k1 (V i 1) ∧ w.cell? ⟨b, o + i * 2, none⟩ = some (V i 0) ∧ w.cell? ⟨b, o + i * 2 + 1, none⟩ = some (V i 1) := by
  obtain ⟨_, _, h3, h4⟩ := h
  obtain ⟨b, o, rfl, hlt, hc⟩ := h3 (by omega)
  exact ⟨b, o, rfl, hlt, h4 i 0 _ hi rfl, h4 i 1 _ hi rfl, hc i 0 hi (by simp), hc i 1 hi (by simp)⟩
theorem Rws.at3 {k0 k1 k2 : TypeDesc} {w : World} {A : Option Addr} {n c : Nat} {V : Nat → Nat → Value} (h : Rws [k0, k1, k2] w A n c V) {i : Nat} (hi : i < n) :
    ∃ b o, A = some ⟨b, o, none⟩ ∧ b < w.heap.size ∧ FKok k0 (V i 0) ∧ FKok k1 (V i 1) ∧ FKok k2 (V i 2) ∧ w.cell? ⟨b, o + i * 3, none⟩ = some (V i 0) ∧ w.cell? ⟨b, o + i * 3 + 1, none⟩ = some (V i 1) ∧
      w.cell? ⟨b, o + i * 3 + 2, none⟩ = some (V i 2) := by
  obtain ⟨_, _, h3, h4⟩ := h
  obtain ⟨b, o, rfl, hlt, hc⟩ := h3 (by omega)
  exact ⟨b, o, rfl, hlt, h4 i 0 _ hi rfl, h4 i 1 _ hi rfl, h4 i 2 _ hi rfl, hc i 0 hi (by simp), hc i 1 hi (by simp), hc i 2 hi (by simp)⟩
theorem Rws.at4 {k0 k1 k2 k3 : TypeDesc} {w : World} {A : Option Addr} {n c : Nat} {V : Nat → Nat → Value} (h : Rws [k0, k1, k2, k3] w A n c V) {i : Nat} (hi : i < n) :
    ∃ b o, A = some ⟨b, o, none⟩ ∧ b < w.heap.size ∧ FKok k0 (V i 0) ∧ FKok k1 (V i 1) ∧ FKok k2 (V i 2) ∧ FKok k3 (V i 3) ∧ w.cell? ⟨b, o + i * 4, none⟩ = some (V i 0) ∧ w.cell? ⟨b, o + i * 4 + 1, none⟩ = some (V i 1) ∧
      w.cell? ⟨b, o + i * 4 + 2, none⟩ = some (V i 2) ∧ w.cell? ⟨b, o + i * 4 + 3, none⟩ = some (V i 3) := by
  obtain ⟨_, _, h3, h4⟩ := h
  obtain ⟨b, o, rfl, hlt, hc⟩ := h3 (by omega)
  exact ⟨b, o, rfl, hlt, h4 i 0 _ hi rfl, h4 i 1 _ hi rfl, h4 i 2 _ hi rfl, h4 i 3 _ hi rfl, hc i 0 hi (by simp), hc i 1 hi (by simp), hc i 2 hi (by simp), hc i 3 hi (by simp)⟩
theorem Rws.at5 {k0 k1 k2 k3 k4 : TypeDesc} {w : World} {A : Option Addr} {n c : Nat} {V : Nat → Nat → Value} (h : Rws [k0, k1, k2, k3, k4] w A n c V) {i : Nat} (hi : i < n) :
    ∃ b o, A = some ⟨b, o, none⟩ ∧ b < w.heap.size ∧ FKok k0 (V i 0) ∧ FKok k1 (V i 1) ∧ FKok k2 (V i 2) ∧ FKok k3 (V i 3) ∧ FKok k4 (V i 4) ∧ w.cell? ⟨b, o + i * 5, none⟩ = some (V i 0) ∧ w.cell? ⟨b, o + i * 5 + 1, none⟩ = some (V i 1) ∧
      w.cell? ⟨b, o + i * 5 + 2, none⟩ = some (V i 2) ∧ w.cell? ⟨b, o + i * 5 + 3, none⟩ = some (V i 3) ∧ w.cell? ⟨b, o + i * 5 + 4, none⟩ = some (V i 4) := by
  obtain ⟨_, _, h3, h4⟩ := h
  obtain ⟨b, o, rfl, hlt, hc⟩ := h3 (by omega)
  exact ⟨b, o, rfl, hlt, h4 i 0 _ hi rfl, h4 i 1 _ hi rfl, h4 i 2 _ hi rfl, h4 i 3 _ hi rfl, h4 i 4 _ hi rfl, hc i 0 hi (by simp), hc i 1 hi (by simp), hc i 2 hi (by simp), hc i 3 hi (by simp), hc i 4 hi (by simp)⟩
end Go.Proofs.Ytlhlidmhlhodiaa

/-
  Sparse frames: from a contract to a law's walk; what came in, as segments.
-/
namespace Go.Proofs.Ytlhlidmhlhodiaa
set_option linter.unusedSimpArgs false
set_option linter.unusedVariables false
open Go.RowKit

theorem sat_start {w : World} {R : List Ro} (h : ∀ r ∈ R, r.sat w) : Sat w (feet []) (blks R) [] R w :=
  ⟨Frm.refl _ _, (by intro x hx; cases hx), (by intro x hx; cases hx), .nil, h, (by intro r _ x hx; cases hx), fun r hr => .inr (.inl (mem_blks.2 ⟨r, hr, rfl⟩))⟩
theorem walk_of {P : Program} {f : FuncId} {args : Array Value} {R : List Ro} {w : World} (hF : Fn P f args [] R (fun v _ _ => v = .bool true)) (hR : ∀ r ∈ R, r.sat w) :
    Calls P f args w fun e w' => e = .returned (.bool true) ∧ Below w.heap.size w w' :=
  (hF w (sat_start hR)).mono fun _ _ ⟨_, _, _, he, hv, hS⟩ => ⟨by rw [he, hv], hS.frm.below⟩

def rowsOf (ks : List TypeDesc) (V : Nat → Nat → Value) (n : Nat) : List (List Value) := (List.range n).map fun i => (List.range ks.length).map fun j => V i j
theorem rowsOf_at {ks : List TypeDesc} {V : Nat → Nat → Value} {n i : Nat} (hi : i < n) : (rowsOf ks V n)[i]? = some ((List.range ks.length).map fun j => V i j) := by
  simp [rowsOf, hi]
theorem rowsOf_len {ks : List TypeDesc} {V : Nat → Nat → Value} {n : Nat} : (rowsOf ks V n).length = n := by simp [rowsOf]
theorem fk_one {k : TypeDesc} {v : Value} (h : FKok k v) : v.oneCell' = true := by
  cases k <;> simp only [FKok] at h <;> first | exact h.elim | skip
  · obtain ⟨b, rfl⟩ := h; rfl
  · obtain ⟨n, rfl, _⟩ := h; rfl
  · obtain ⟨s, rfl, _⟩ := h; rfl
theorem block_of_cell {w : World} {b o : Nat} {v : Value} (h : w.cell? ⟨b, o, none⟩ = some v) : ∃ cur t fz, w.heap[b]? = some (.cells cur t fz) ∧ cur[o]? = some v := by
  unfold World.cell? at h
  split at h
  · rename_i c e fz hc
    exact ⟨c, e, fz, hc, by simpa using h⟩
  · cases h
theorem rws_ro {ks : List TypeDesc} {w : World} {A : Option Addr} {n c : Nat} {V : Nat → Nat → Value} (h : Rws ks w A n c V) (hk : 0 < ks.length) :
    ∃ R : List Ro, (∀ r ∈ R, r.sat w) ∧ (0 < n → ∃ b o, A = some ⟨b, o, none⟩ ∧ ⟨b, o, ks.length, rowsOf ks V n⟩ ∈ R) := by
  obtain ⟨h1, h2, h3, h4⟩ := h
  rcases Nat.eq_zero_or_pos n with h0 | h0
  · exact ⟨[], (by intro r hr; cases hr), fun h => by omega⟩
  · obtain ⟨b, o, rfl, hlt, hc⟩ := h3 h0
    refine ⟨[⟨b, o, ks.length, rowsOf ks V n⟩], fun r hr => ?_, fun _ => ⟨b, o, rfl, .head _⟩⟩
    rcases List.mem_singleton.1 hr with rfl
    obtain ⟨cur, t, fz, hb, _⟩ := block_of_cell (hc 0 0 h0 hk)
    have hrows : RowsOk ks.length (rowsOf ks V n) := by
      intro row hrow
      obtain ⟨i, hi, rfl⟩ := List.mem_map.1 hrow
      refine ⟨by simp, fun u hu => ?_⟩
      obtain ⟨j, hj, rfl⟩ := List.mem_map.1 hu
      have hj' := List.mem_range.1 hj
      exact fk_one (h4 i j ks[j] (List.mem_range.1 hi) (List.getElem?_eq_getElem hj'))
    refine ⟨hrows, cur, t, fz, hb, (seg_iff hrows.lens).2 ?_⟩
    intro i row hi j u hj
    have hil : i < n := by have := (List.getElem?_eq_some_iff.1 hi).1; rw [rowsOf_len] at this; exact this
    rw [rowsOf_at hil] at hi
    simp only [Option.some.injEq] at hi
    subst hi
    have hjl : j < ks.length := by have := (List.getElem?_eq_some_iff.1 hj).1; simpa using this
    simp [hjl] at hj
    subst hj
    have := hc i j hil hjl
    unfold World.cell? at this
    rw [hb] at this
    simpa using this
end Go.Proofs.Ytlhlidmhlhodiaa

/-
  Sparse frames: results that lie in cells; structs handed by value.
-/
namespace Go.Proofs.Ytlhlidmhlhodiaa
set_option linter.unusedSimpArgs false
set_option linter.unusedVariables false
open Go.RowKit
inductive RV (P : Program) (fr : List (Nat × Value)) (hp : List It) : List ResultVar → List Value → Prop
  | nil : RV P fr hp [] []
  | tmp {r v rs vs} (h : fget fr r = some v) (ht : RV P fr hp rs vs) : RV P fr hp (.tmp r :: rs) (v :: vs)
  | agg {a t rs vs b o n r} {l : List Value} {t' : TypeId} {fz : Nat × Nat} {F : List It} (h : fget fr a = some (.pointer (some ⟨b, o, none⟩))) (hs : hp.Perm (.ob b (.cells l.toArray t' fz) :: F)) (hT : TAgg P t n) (hl : Cut l o n r) (ht : RV P fr hp rs vs) : RV P fr hp (.cell a t :: rs) (.agg r.toArray :: vs)
  | one {a t rs vs b o v} {l : List Value} {t' : TypeId} {fz : Nat × Nat} {F : List It} (h : fget fr a = some (.pointer (some ⟨b, o, none⟩))) (hs : hp.Perm (.ob b (.cells l.toArray t' fz) :: F)) (hT : TOne P t) (hl : l[o]? = some v) (ht : RV P fr hp rs vs) : RV P fr hp (.cell a t :: rs) (v :: vs)
def outV : List Value → Value
  | [v] => v
  | vs => .tuple vs.toArray
def resOne (tmps : Array Value) : ResultVar → Sem Value
  | .tmp t => pure (tmps.getD t undef)
  | .cell a t => do loadVar t (← asAddr (tmps.getD a undef))
theorem run_loadVar_one {P : Program} {T : TypeId} {v : Value} [TOne P T] {w : World} {ad : Addr} (h : w.cell? ad = some v) : (loadVar T ad).run P w = .ok v w := by
  simp only [loadVar, Sem.run_bind, Sem.run_pure, Result.andThen_ok, run_isAgg_one, Bool.false_eq_true, if_false]
  simp [h, go_sem]
theorem run_loadVar_agg {P : Program} {T : TypeId} {n : Nat} [TAgg P T n] {w : World} {b o : Nat} {r : List Value} (hn : r.length = n) (h : ∀ j u, r[j]? = some u → w.cell? ⟨b, o + j, none⟩ = some u) : (loadVar T ⟨b, o, none⟩).run P w = .ok (.agg r.toArray) w := by
  have := run_loadCells_list (P := P) w ⟨b, o, none⟩ r (fun j u hj => by rw [Addr.add_lit]; exact h j u hj)
  subst hn
  simp only [loadVar, Sem.run_bind, Sem.run_pure, Result.andThen_ok, run_isAgg_agg, if_true, run_sizeOf_agg, this]
theorem RV.run {P : Program} {N : Nat} {E : Env} {fr : List (Nat × Value)} {hp : List It} {ro : List Ro} {rs : List ResultVar} {vs : List Value} (h : RV P fr hp rs vs) {a : Act} {w : World} (ok : Ok N E ⟨fr, hp, ro⟩ a w) :
    (rs.mapM (resOne a.tmps)).run P w = .ok vs w := by
  induction h with
  | nil => rfl
  | tmp h _ ih => simp only [List.mapM_cons, Sem.run_bind, resOne, Sem.run_pure, Result.andThen_ok, ih, ok.h.tmp h]
  | @agg _ t _ _ _ _ _ _ _ _ _ _ h hs hT hl _ ih =>
    have h1 := run_loadVar_agg (P := P) (T := t) hl.spec.1 (fun j u hj => cell_ob (ok.s.get hs) (hl.spec.2 j u hj))
    simp only [List.mapM_cons, Sem.run_bind, resOne, ok.h.tmp h, asAddr, Sem.run_pure, Result.andThen_ok, h1, ih]
  | @one _ t _ _ _ _ _ _ _ _ _ h hs hT hl _ ih =>
    have h1 := run_loadVar_one (P := P) (T := t) (cell_ob (ok.s.get hs) hl)
    simp only [List.mapM_cons, Sem.run_bind, resOne, ok.h.tmp h, asAddr, Sem.run_pure, Result.andThen_ok, h1, ih]
theorem outV_eq (vs : List Value) : (if h : vs.toArray.size = 1 then vs.toArray[0] else .tuple vs.toArray) = outV vs := by
  match vs with
  | [] => rfl
  | [v] => rfl
  | _ :: _ :: _ => simp [outV]
theorem retv {P : Program} {fn : Func} {fr : List (Nat × Value)} {hp hp' F : List It} {ro ro' : List Ro} {rs : List ResultVar} {vs : List Value} {Post : Value → List It → List Ro → Prop} (hr : fn.results = rs.toArray) (hv : RV P fr hp rs vs) (hP : Post (outV vs) hp' ro') (hpm : hp.Perm (hp' ++ F)) (ho : ∀ r ∈ ro', r ∈ ro) :
    Ret P fn Post ⟨fr, hp, ro⟩ :=
  ⟨_, hp', ro', fun _ _ a w ok => by
    have h1 := hv.run ok
    have e : results fn a.tmps = (do let vs ← fn.results.mapM (resOne a.tmps); pure (if h : vs.size = 1 then vs[0] else .tuple vs)) := by
      unfold results resOne
      rfl
    rw [e, hr, List.mapM_toArray]
    simp only [Sem.run_bind, map_eq_pure_bind, h1, Result.andThen_ok, Sem.run_pure, outV_eq], ⟨F, hpm⟩, ho, hP⟩
/-! shifts by so many bits; or of what doesn't overlap -/
def p2o (b : Int) : Option Int := ([1, 2, 4, 8, 16, 32, 64, 128, 256, 512, 1024, 2048, 4096, 8192, 16384, 32768, 65536, 131072, 262144, 524288, 1048576, 2097152, 4194304, 8388608, 16777216, 33554432, 67108864, 134217728, 268435456, 536870912, 1073741824, 2147483648, 4294967296, 8589934592, 17179869184, 34359738368, 68719476736, 137438953472, 274877906944, 549755813888, 1099511627776, 2199023255552, 4398046511104, 8796093022208, 17592186044416, 35184372088832, 70368744177664, 140737488355328, 281474976710656, 562949953421312, 1125899906842624, 2251799813685248, 4503599627370496, 9007199254740992, 18014398509481984, 36028797018963968, 72057594037927936, 144115188075855872, 288230376151711744, 576460752303423488, 1152921504606846976, 2305843009213693952, 4611686018427387904, 9223372036854775808] : List Int)[b.toNat]?
theorem p2o_eq {b m : Int} (h : p2o b = some m) : m = 2 ^ b.toNat ∧ b.toNat < 64 := by
  have hl : b.toNat < 64 := by
    have := (List.getElem?_eq_some_iff.1 h).1
    simpa using this
  refine ⟨?_, hl⟩
  have key : ∀ i : Nat, i < 64 → ([1, 2, 4, 8, 16, 32, 64, 128, 256, 512, 1024, 2048, 4096, 8192, 16384, 32768, 65536, 131072, 262144, 524288, 1048576, 2097152, 4194304, 8388608, 16777216, 33554432, 67108864, 134217728, 268435456, 536870912, 1073741824, 2147483648, 4294967296, 8589934592, 17179869184, 34359738368, 68719476736, 137438953472, 274877906944, 549755813888, 1099511627776, 2199023255552, 4398046511104, 8796093022208, 17592186044416, 35184372088832, 70368744177664, 140737488355328, 281474976710656, 562949953421312, 1125899906842624, 2251799813685248, 4503599627370496, 9007199254740992, 18014398509481984, 36028797018963968, 72057594037927936, 144115188075855872, 288230376151711744, 576460752303423488, 1152921504606846976, 2305843009213693952, 4611686018427387904, 9223372036854775808] : List Int)[i]? = some (2 ^ i) := by decide
  unfold p2o at h
  rw [key _ hl] at h
  exact (Option.some.inj h).symm
section
variable {P : Program} {fr : List (Nat × Value)} {hp : List It} {ro : List Ro} {x y : Operand} {k k' : IntKind} {a b lo hi m : Int} {t t' : TypeId}
theorem a_shr (hx : opd fr x = some (.int k a)) (hy : opd fr y = some (.int k' b)) (hm : p2o b = some m) (h0 : 0 ≤ b) (hb : Nat.ble b.toNat k.bits = true) : Pv P ⟨fr, hp, ro⟩ (.binOp .shr t x y t') (.int k (a / m)) := by
  obtain ⟨h1, h2⟩ := p2o_eq hm
  have := pv_shr (P := P) (hp := hp) (ro := ro) (t := t) (t' := t') hx hy h0
  rw [Nat.min_eq_left (Nat.le_of_ble_eq_true hb), ← h1, Int.fdiv_eq_ediv_of_nonneg _ (by rw [h1]; exact Int.le_of_lt (Int.pow_pos (by omega)))] at this
  exact this
theorem a_shl (hx : opd fr x = some (.int k a)) (hy : opd fr y = some (.int k' b)) (hm : p2o b = some m) (h0 : 0 ≤ b) (hb : Nat.ble b.toNat k.bits = true) (hk : KB k lo hi) (h : lo ≤ a * m ∧ a * m ≤ hi) : Pv P ⟨fr, hp, ro⟩ (.binOp .shl t x y t') (.int k (a * m)) := by
  obtain ⟨h1, h2⟩ := p2o_eq hm
  have := pv_shl (P := P) (hp := hp) (ro := ro) (t := t) (t' := t') hx hy h0
  rw [Nat.min_eq_left (Nat.le_of_ble_eq_true hb), ← h1, hk.h _ h.1 h.2] at this
  exact this
theorem a_shl_u (hx : opd fr x = some (.int k a)) (hy : opd fr y = some (.int k' b)) (hm : p2o b = some m) (h0 : 0 ≤ b) (hb : Nat.ble b.toNat k.bits = true) {mm : Int} (hk : KU k mm) : Pv P ⟨fr, hp, ro⟩ (.binOp .shl t x y t') (.int k (a * m % mm)) := by
  obtain ⟨h1, h2⟩ := p2o_eq hm
  have := pv_shl (P := P) (hp := hp) (ro := ro) (t := t) (t' := t') hx hy h0
  rw [Nat.min_eq_left (Nat.le_of_ble_eq_true hb), ← h1, hk.h] at this
  exact this
theorem wrap_lt (k : IntKind) (n : Int) : k.wrap n < ((2 ^ k.bits : Nat) : Int) := by
  cases k <;> simp only [IntKind.wrap, IntKind.bits, IntKind.signed] <;> simp <;> omega
theorem a_or (j : Int) (hx : opd fr x = some (.int k a)) (hy : opd fr y = some (.int k b)) (hk : KB k lo hi) (hm : p2o j = some m) (h : lo ≤ 0 ∧ 0 ≤ a ∧ a % m = 0 ∧ 0 ≤ b ∧ b < m ∧ a + b ≤ hi) : Pv P ⟨fr, hp, ro⟩ (.binOp .or t x y t') (.int k (a + b)) := by
  obtain ⟨h1, h2⟩ := p2o_eq hm
  obtain ⟨g1, g2, g3, g4, g5, g6⟩ := h
  have this := pv_or (P := P) (hp := hp) (ro := ro) (t := t) (t' := t') hx hy
  obtain ⟨u, rfl⟩ := Int.eq_ofNat_of_zero_le g2
  obtain ⟨v, rfl⟩ := Int.eq_ofNat_of_zero_le g4
  have hw := hk.h ((u : Int) + (v : Int)) (by omega) g6
  have hlt : u + v < 2 ^ k.bits := by have := wrap_lt k ((u : Int) + (v : Int))
                                      rw [hw] at this
                                      exact_mod_cast this
  have e : bits .or k (u : Int) (v : Int) = (u : Int) + (v : Int) := by
    show k.wrap ((BitVec.ofInt k.bits (u : Int) ||| BitVec.ofInt k.bits (v : Int)).toNat : Int) = _
    have hz : ∀ c : Nat, c < 2 ^ k.bits → (BitVec.ofInt k.bits (c : Int)).toNat = c := fun c hc => by
      rw [BitVec.ofInt_natCast, BitVec.toNat_ofNat]; exact Nat.mod_eq_of_lt hc
    rw [BitVec.toNat_or, hz u (by omega), hz v (by omega)]
    have hd : 2 ^ j.toNat ∣ u := by
      have : ((u % 2 ^ j.toNat : Nat) : Int) = 0 := by push_cast; rw [← h1]; exact g3
      exact Nat.dvd_of_mod_eq_zero (by exact_mod_cast this)
    obtain ⟨z, rfl⟩ := hd
    have hv : v < 2 ^ j.toNat := by have : (v : Int) < ((2 ^ j.toNat : Nat) : Int) := by push_cast; omega
                                    exact_mod_cast this
    rw [← Nat.two_pow_add_eq_or_of_lt hv z]
    push_cast at hw ⊢
    exact hw
  rw [e] at this
  exact this
end
/-! what one operation of a drawn region does -/
section
variable {P : Program} {N : Nat} {E : Env} {fr : List (Nat × Value)} {B0 : List It} {ro : List Ro} {T : TypeId} {x y : Operand} {v : Value} {dst : Option Tmp} {ty : TypeId} {pos : String} {af : Array Edge} {g : Option (Nat × Bool)} {b o : Nat} {l l' : List Value} {t : TypeId}
theorem outc_alloc {z : List Value} [TZ P T z] : ∀ a, Holds N fr a → Outc P E B0 ro ⟨dst, .alloc T, ty, pos, af, g⟩ a [] (fun v M => ∃ b, v = .pointer (some ⟨b, 0, none⟩) ∧ M = [.ob b (.cells z.toArray T (0, 0))]) := fun a hh F w hw => by
  obtain ⟨v, hv, hc⟩ := run_zeroValue (P := P) (T := T) (w := w)
  have e : (execOp a.eval ⟨dst, .alloc T, ty, pos, af, g⟩).run P w = .ok (.value (.pointer (some ⟨w.heap.size, 0, none⟩))) (w.alloc (.cells z.toArray T)) := by
    simp only [execOp, Instr.alloc, Sem.run_bind, hv, Result.andThen_ok, newVar, newRow, newObj, hc]; rfl
  rw [e]
  exact ⟨_, ⟨_, rfl, rfl⟩, (hw.step (L := []) (T' := []) (.refl _) (by simp) (Sat.fresh _)).some_ro (fun r hr => by simpa using hr)⟩
theorem outc_sta {n : Nat} {r : List Value} [TAgg P T n] (hx : opd fr x = some (.pointer (some ⟨b, o, none⟩))) (hy : opd fr y = some (.agg r.toArray)) (hn : Nat.beq r.length n = true) (h1 : allOne r = true) (hl : LayAt l o r l') :
    ∀ a, Holds N fr a → Outc P E B0 ro ⟨dst, .store T x y, ty, pos, af, g⟩ a [.ob b (.cells l.toArray t (0, 0))] (fun u M => u = undef ∧ M = [.ob b (.cells l'.toArray t (0, 0))]) := fun a hh F w hw => by
  obtain ⟨hf, rfl⟩ := hl.spec
  have hn := Nat.eq_of_beq_eq_true hn
  subst hn
  obtain ⟨w', h2, h3, h4⟩ := run_storeAt_lay (P := P) (T := T) (v := .agg r.toArray) rfl run_sizeOf_agg (show w.heap[b]? = _ from hw.get (.refl _)) (by simpa using hf) (allOne_mem h1)
  have e : (execOp a.eval ⟨dst, .store T x y, ty, pos, af, g⟩).run P w = .ok .skip w' := by
    simp only [execOp, hh.eval hx, hh.eval hy, Sem.run_bind, h2]; rfl
  rw [e]
  exact ⟨_, ⟨rfl, rfl⟩, (hw.step (L := [_]) (T' := []) (.refl _) (by simp) (Sat.relay h4 h3)).some_ro (fun r hr => by simpa using hr)⟩
theorem outc_st [TOne P T] (hx : opd fr x = some (.pointer (some ⟨b, o, none⟩))) (hy : opd fr y = some v) (h1 : v.oneCell' = true) (hl : SetAt l o v l') :
    ∀ a, Holds N fr a → Outc P E B0 ro ⟨dst, .store T x y, ty, pos, af, g⟩ a [.ob b (.cells l.toArray t (0, 0))] (fun u M => u = undef ∧ M = [.ob b (.cells l'.toArray t (0, 0))]) := fun a hh F w hw => by
  obtain ⟨hf, rfl⟩ := hl.lay.spec
  obtain ⟨w', h2, h3, h4⟩ := run_storeAt_lay (P := P) (T := T) (r := [v]) (cells_one h1) run_sizeOf_one (show w.heap[b]? = _ from hw.get (.refl _)) (by simpa using hf) (by simpa using h1)
  have e : (execOp a.eval ⟨dst, .store T x y, ty, pos, af, g⟩).run P w = .ok .skip w' := by
    simp only [execOp, hh.eval hx, hh.eval hy, Sem.run_bind, h2]; rfl
  rw [e]
  exact ⟨_, ⟨rfl, rfl⟩, (hw.step (L := [_]) (T' := []) (.refl _) (by simp) (Sat.relay h4 h3)).some_ro (fun r hr => by simpa using hr)⟩
theorem outc_mono {L : List It} {o : Oper} {a : Act} {T T' : Value → List It → Prop} (h : Outc P E B0 ro o a L T) (hT : ∀ v M, T v M → T' v M) : Outc P E B0 ro o a L T' := fun F w hw => by
  have := h F w hw
  revert this
  cases hr : (execOp a.eval o).run P w with
  | ok n w' =>
    cases n with
    | value v => exact fun ⟨M, h1, h2⟩ => ⟨M, hT _ _ h1, h2⟩
    | skip => exact fun ⟨M, h1, h2⟩ => ⟨M, hT _ _ h1, h2⟩
    | enter f args => exact fun ⟨h0, h⟩ => ⟨h0, h.mono fun _ _ ⟨v, M, h1, h2, h3⟩ => ⟨v, M, h1, hT _ _ h2, h3⟩⟩
    | _ => exact fun h => h
  | _ => exact fun h => h
end
abbrev cM (L : List It) : Nat → List It := fun _ => L
/-- one store, into a block of its own class -/
abbrev stT (new : List Value) (T : TypeId) : Nat → List It → Value → List It → Prop := fun _ L v M => match L with
  | [.ob b _] => v = undef ∧ M = [.ob b (.cells new.toArray T (0, 0))]
  | _ => False
/-! a slice of numbers that came in -/
def kseg (k : IntKind) (z : Nat → Int) (n : Nat) : List (List Value) := (List.range n).map fun i => [.int k (z i)]
theorem kseg_at {k : IntKind} {z : Nat → Int} {n i : Nat} (h : i < n) : (kseg k z n)[i]? = some [.int k (z i)] := by simp [kseg, h]
theorem rws_k {k : IntKind} {w : World} {A : Option Addr} {n c : Nat} {V : Nat → Nat → Value} (h : Rws [.int k] w A n c V) :
    ∃ (z : Nat → Int) (R : List Ro), (∀ r ∈ R, r.sat w) ∧ (∀ i, i < n → k.min ≤ z i ∧ z i ≤ k.max) ∧ (0 < n → ∃ b o, A = some ⟨b, o, none⟩ ∧ ⟨b, o, 1, kseg k z n⟩ ∈ R) ∧ n ≤ 9223372036854775807 := by
  obtain ⟨R, hR, h0⟩ := rws_ro h (by simp)
  obtain ⟨h1, h2, _, h4⟩ := h
  refine ⟨fun i => match V i 0 with | .int _ z => z | _ => 0, R, hR, fun i hi => ?_, fun hn => ?_, by unfold maxLen at h2; omega⟩
  · obtain ⟨z, hz, hw⟩ := h4 i 0 _ hi rfl
    simp only [hz]
    simpa [Lit.wf] using hw
  · obtain ⟨b, o, hA, hm⟩ := h0 hn
    refine ⟨b, o, hA, ?_⟩
    have e : rowsOf [.int k] V n = kseg k (fun i => match V i 0 with | .int _ z => z | _ => 0) n := by
      unfold rowsOf kseg
      refine List.map_congr_left fun i hi => ?_
      obtain ⟨z, hz, _⟩ := h4 i 0 _ (List.mem_range.1 hi) rfl
      simp [hz]
    rw [← e]; exact hm
/-! classes as a list -/
def look : List (Nat × List It) → Nat → Option (List It)
  | [], _ => none
  | (i, M) :: l, k => if i = k then some M else look l k
def setl : List (Nat × List It) → Nat → List It → List (Nat × List It)
  | [], c, M => [(c, M)]
  | (i, M') :: l, c, M => if i = c then (i, M) :: l else (i, M') :: setl l c M
def fm (l : List (Nat × List It)) : Nat → List It := fun k => (look l k).getD []
theorem look_set (c : Nat) (M : List It) (k : Nat) : ∀ l, look (setl l c M) k = if c = k then some M else look l k
  | [] => by simp only [setl, look]
  | (i, M') :: l => by
    unfold setl
    by_cases h : i = c
    · subst h
      rw [if_pos rfl]
      simp only [look]
      split <;> rfl
    · rw [if_neg h]
      simp only [look, look_set c M k l]
      by_cases h2 : i = k
      · subst h2; rw [if_pos rfl, if_neg (Ne.symm h), if_pos rfl]
      · rw [if_neg h2, if_neg h2]
theorem fm_set (l : List (Nat × List It)) (c : Nat) (M : List It) : fm (setl l c M) = upd (fm l) c M := by
  funext k
  unfold fm upd
  rw [look_set]
  by_cases h : c = k
  · subst h; simp
  · rw [if_neg h]
    have : Nat.beq c k = false := by cases hb : Nat.beq c k with
      | false => rfl
      | true => exact absurd (Nat.eq_of_beq_eq_true hb) h
    rw [this]; rfl
theorem he_eff {P : Program} {N : Nat} {E : Env} {B0 : List It} {ro : List Ro} {ops : Array Oper} {cls : Nat → Option Nat} {tbl : Nat → List It → Value → List It → Prop} {K : List (Nat × Value) → (Nat → List It) → Prop} {k : Nat} {fr : List (Nat × Value)} {l : List (Nat × List It)} {dst : Option Tmp} {op : Op} {ty : TypeId} {pos : String} {af : Array Edge} {rest : List Oper} {c : Nat} {L : List It} {g : Option (Nat × Bool)}
    (hc : cls k = some c) (hm : look l c = some L) (hd : dstOk dst N = true) (hg : GOk ops fr g) (ho : ∀ a, Holds N fr a → Outc P E B0 ro ⟨dst, op, ty, pos, af, g⟩ a L (tbl k L)) (hin : ∃ v M, tbl k L v M)
    (h : ∀ v M, tbl k L v M → HdE P N E B0 ro ops cls tbl K (k + 1) rest (putF dst v fr) (fm (setl l c M))) : HdE P N E B0 ro ops cls tbl K k (⟨dst, op, ty, pos, af, g⟩ :: rest) fr (fm l) :=
  .eff hc (by unfold fm; rw [hm]; rfl) hd hg ho hin (fun v M hv => by rw [← fm_set]; exact h v M hv)
end Go.Proofs.Ytlhlidmhlhodiaa

/-
  Sparse frames: texts and bytes.
-/
namespace Go.Proofs.Ytlhlidmhlhodiaa
set_option linter.unusedSimpArgs false
set_option linter.unusedVariables false
open Go.RowKit
def sb (s : ByteArray) (i : Nat) : Int := ((s.data.toList.getD i 0).toNat : Int)
theorem sb_b (s : ByteArray) (i : Nat) : 0 ≤ sb s i ∧ sb s i ≤ 255 := by
  unfold sb
  have := (s.data.toList.getD i 0).toNat_lt
  omega
def brows (s : ByteArray) : List (List Value) := s.data.toList.map fun b => [.int .u8 (b.toNat : Int)]
theorem brows_len (s : ByteArray) : (brows s).length = s.size := by simp [brows]
theorem brows_at {s : ByteArray} {i : Nat} (h : i < s.size) : (brows s)[i]? = some [.int .u8 (sb s i)] := by
  have h' : i < s.data.size := h
  simp [brows, sb, List.getD, Array.getElem?_eq_getElem h']
theorem brows_append (a b : ByteArray) : brows (a ++ b) = brows a ++ brows b := by simp [brows]
theorem brows_ok (s : ByteArray) : RowsOk 1 (brows s) := by
  intro r hr
  obtain ⟨b, _, rfl⟩ := List.mem_map.1 hr
  exact ⟨rfl, by simp; rfl⟩
theorem flat_one {α β : Type} (f : α → β) : ∀ l : List α, (l.map fun b => [f b]).flatten = l.map f
  | [] => rfl
  | x :: l => by simp [flat_one f l]
theorem brows_flat (s : ByteArray) : (brows s).flatten = Lib.strCells s := by
  unfold brows Lib.strCells
  exact flat_one _ _
section
variable {P : Program} {N : Nat} {E : Env} {fr : List (Nat × Value)} {hp : List It} {ro : List Ro} {Kn Kr : St → Prop} {Kx : List (Nat × (St → Prop))} {ops : Array Oper} {rest : List Oper} {dst : Option Tmp} {ty : TypeId} {pos : String} {af : Array Edge} {T : TypeId} {x y : Operand} {v : Value} {F : List It} {t t' : TypeId} {k : IntKind}
theorem pv_index_s {s : ByteArray} {z : Int} [hT : TStr P t] (hx : opd fr x = some (.string s)) (hy : opd fr y = some (.int k z)) (hz : 0 ≤ z ∧ z < s.size) : Pv P ⟨fr, hp, ro⟩ (.index t x y) (.int .u8 (sb s z.toNat)) := fun N E ac w dst ty pos af g ok => by
  have hi : z.toNat < s.size := by omega
  have hi' : z.toNat < s.data.size := hi
  have e : s[z.toNat]? = some s.data[z.toNat] := by
    rw [getElem?_pos s z.toNat hi]; rfl
  simp only [execOp, ok.h.eval hx, ok.h.eval hy]
  simp [Instr.index, asIntOf, run_underlying hT.h, hz.1, e, sb, List.getD, Array.getElem?_eq_getElem hi', go_sem]
theorem pv_index_sn {s : ByteArray} {i : Nat} [hT : TStr P t] (hx : opd fr x = some (.string s)) (hy : opd fr y = some (.int k (i : Int))) (hz : i < s.size) : Pv P ⟨fr, hp, ro⟩ (.index t x y) (.int .u8 (sb s i)) := by
  have := pv_index_s (P := P) (hp := hp) (ro := ro) (t := t) hx hy (by omega)
  rwa [Int.toNat_natCast] at this
/-- a string's bytes, laid into a row that is only read -/
theorem wo_conv_sb {d e by_ : Nat} {s : ByteArray} [hS : TStr P t] [hT : TSl P t' e 1 by_] [he : TInt P e .u8] (hx : opd fr x = some (.string s)) (hd : Nat.ble (d + 1) N = true)
    (h : ∀ b c, s.size ≤ c → WO P N E ops rest ⟨(d, .slice (some ⟨b, 0, none⟩) s.size c) :: fr, hp, ⟨b, 0, 1, brows s⟩ :: ro⟩ Kn) : WO P N E ops (⟨some d, .convert t t' x, ty, pos, af, none⟩ :: rest) ⟨fr, hp, ro⟩ Kn := by
  intro Q hQ a w ok
  unfold wpList
  rw [if_pos (by simp [Region.wanted])]
  refine .inl ?_
  obtain ⟨_, _, h1, _⟩ := sl_und hT.h
  have hr := Lib.run_convert_string_bytes (P := P) w t t' e s hS.h h1 he.h
  unfold Oper.wp
  have e1 : (execOp a.eval ⟨some d, .convert t t' x, ty, pos, af, none⟩).run P w = .ok (.value (.slice (some ⟨w.heap.size, 0, none⟩) s.size (grownCap w s.size 0 e))) (Lib.bytesWorld w e s) := by
    simp only [execOp, ok.h.eval hx, Sem.run_bind, hr, Result.andThen_ok]; rfl
  rw [e1]
  have hS' : Sat w (feet []) [] [] [⟨w.heap.size, 0, 1, brows s⟩] (Lib.bytesWorld w e s) :=
    ⟨⟨rfl, rfl, rfl, by rw [Lib.bytesWorld_size]; omega, fun k hk _ => Lib.bytesWorld_at_old w e s k hk⟩, (by intro x hx; cases hx), (by intro x hx; cases hx), .nil, fun r hr => by
      rcases List.mem_singleton.1 hr with rfl
      refine ⟨brows_ok s, _, _, _, Lib.bytesWorld_at_new w e s, fun j u hj => ?_⟩
      rw [brows_flat] at hj
      simp only [Nat.zero_add]
      unfold Lib.bytesCells
      have hj' : j < s.size := by have := (List.getElem?_eq_some_iff.1 hj).1; rw [Lib.strCells_length] at this; exact this
      rw [Array.getElem?_append_left (by simpa using hj')]
      unfold Lib.strCells at hj
      simpa using hj, (by intro r _ x hx; cases hx), fun r hr => by
      rcases List.mem_singleton.1 hr with rfl
      exact .inr (.inr (Nat.le_refl _))⟩
  exact h _ _ (grownCap_ge w s.size 0 e) Q hQ _ _ ⟨ok.h.put (Nat.le_of_ble_eq_true hd) _, ok.s.step (L := []) (.refl _) blks_mem hS'⟩
/-- bytes as numbers, and their string -/
def bytesOf (ns : List Int) : ByteArray := ns.foldl (fun r n => r.push (UInt8.ofNat n.toNat)) ByteArray.empty
theorem pv_conv_bs {e by_ b o n c : Nat} {ns : List Int} {xs : List (List Value)} {ty' : TypeId} [hT : TSl P t e 1 by_] [he : TInt P e .u8] [hS : TStr P t'] (hx : opd fr x = some (.slice (some ⟨b, o, none⟩) n c)) (hs : hp.Perm (.own ty' 1 (some ⟨b, o, none⟩) n c xs :: F)) (hn : xs = ns.map fun z => [.int .u8 z]) :
    Pv P ⟨fr, hp, ro⟩ (.convert t t' x) (.string (bytesOf ns)) := fun N E ac w dst ty pos af g ok => by
  subst hn
  have hO : OwnSat w ty' 1 (some ⟨b, o, none⟩) n c _ := ok.s.get hs
  obtain ⟨_, _, h1, _⟩ := sl_und hT.h
  have hl : n = ns.length := by have := hO.len; simpa using this.symm
  subst hl
  have hc := run_loadCells_list (P := P) w ⟨b, o, none⟩ (ns.map (Value.int .u8)) (fun j u hj => by
    rw [Addr.add_lit]
    obtain ⟨_, cur, hcur, _, hseg⟩ := hO.at_ _ rfl
    simp only at hcur hseg
    simp only [World.cell?, hcur]
    exact hseg j u (by rw [flat_one]; exact hj))
  rw [List.length_map] at hc
  have hr := run_bytesToString (P := P) w ⟨b, o, none⟩ ns.length c ns hc
  simp only [execOp, ok.h.eval hx]
  simp [convert, run_underlying h1, run_underlying hS.h, run_underlying he.h, hr, bytesOf, go_sem]
theorem run_append_str {w : World} {t u ty e : TypeId} [hT : TSl P t e 1 1] [hu : TStr P u] {ao : Option Addr} {n c : Nat} {xs : List (List Value)} (hS : OwnSat w e 1 ao n c xs) (h0 : ao = none ∨ ∃ b, ao = some ⟨b, 0, none⟩) (s : ByteArray) (hb : n + s.size ≤ 1099511627776) :
    ∃ ao' c' w', (Builtin.append_ #[t, u] ty #[.slice ao n c, .string s]).run P w = .ok (.slice ao' (n + s.size) c') w' ∧ OwnSat w' e 1 ao' (n + s.size) c' (xs ++ brows s) ∧ Frm (feet [It.own e 1 ao n c xs]) w w' ∧
      (∀ b, (It.own e 1 ao' (n + s.size) c' (xs ++ brows s)).foot = some b → b ∈ feet [It.own e 1 ao n c xs] ∨ w.heap.size ≤ b) ∧ ((ao' = none ∧ n + s.size = 0) ∨ ∃ b, ao' = some ⟨b, 0, none⟩) ∧ (ao = none → s.size = 0 → ao' = none) := by
  obtain ⟨i, z, h1, h2, h3, h4, h5, h6, h7⟩ := sl_und hT.h
  have hrows : RowsOk 1 (xs ++ brows s) := fun r hr => by
    rcases List.mem_append.1 hr with hr | hr
    · exact hS.rows r hr
    · exact brows_ok s r hr
  have hlen : (xs ++ brows s).length = n + s.size := by simp [hS.len, brows_len]
  have hfl : (xs ++ brows s).flatten = xs.flatten ++ Lib.strCells s := by rw [List.flatten_append, brows_flat]
  have hxl : xs.flatten.length = n := by rw [flat_len hS.rows.lens, hS.len, Nat.mul_one]
  rcases h0 with rfl | ⟨b, rfl⟩
  · have hc0 := hS.nil rfl
    have hle := hS.le
    subst hc0
    obtain rfl : n = 0 := by omega
    have hx0 : xs = [] := List.eq_nil_of_length_eq_zero hS.len
    subst hx0
    have hz : i.zero = some (.int .u8 0) ∨ True := .inr trivial
    by_cases hm : s.size = 0
    · refine ⟨none, 0, w, ?_, ?_, Frm.refl _ _, (by intro b hb; cases hb), .inl ⟨rfl, by omega⟩, fun _ _ => rfl⟩
      · have hn : Lib.strCells s = [] := List.eq_nil_of_length_eq_zero (by rw [Lib.strCells_length]; exact hm)
        have hf := Lib.run_firstCells_string (P := P) w 1 s
        rw [hm] at hf
        simp [Builtin.append_, run_underlying h1, run_underlying hu.h, sizeOf, typeInfo, h2, h5, Builtin.lenOf, hm, hf]
      · have : brows s = [] := List.eq_nil_of_length_eq_zero (by rw [brows_len]; exact hm)
        rw [this, hm]; exact hS
    · have hn : ¬ (0 + s.size ≤ 0) := by omega
      have h63' : ¬ (9223372036854775807 < (((0 : Nat) : Int) + (s.size : Int))) := by omega
      have hfit : Builtin.nextslicecap (0 + s.size) 0 * i.bytes ≤ 281474976710656 := by rw [h6]; exact growslice_fits (by omega) (by omega)
      have h48' : ¬ (281474976710656 < Builtin.nextslicecap (0 + s.size) 0 * i.bytes) := by omega
      have hf := Lib.run_firstCells_string (P := P) w.drew i.size s
      have hr : (Builtin.append_ #[t, u] ty #[.slice none 0 0, .string s]).run P w = .ok (.slice (some ⟨w.heap.size, 0, none⟩) (0 + s.size) (grownCap w (0 + s.size) 0 e))
          (w.drew.alloc (.cells ((Lib.strCells s).toArray ++ Builtin.zeroCells z.cells (grownCap w (0 + s.size) 0 e - (0 + s.size))) e)) := by
        simp only [Nat.zero_add] at hn h48' ⊢
        simp only [Int.natCast_zero, Int.zero_add] at h63'
        have hfx : (s.data.map fun b => Value.int .u8 (b.toNat : Int)).extract 0 s.size = (Lib.strCells s).toArray := by
          apply Array.ext'
          simp [Lib.strCells]
          exact List.take_of_length_le (Nat.le_of_eq (by first | (simp; done) | (simp; rfl)))
        simp [Builtin.append_, run_underlying h1, run_underlying hu.h, sizeOf, typeInfo, zeroValue, h2, h3, h5, Builtin.lenOf, hm, h63', h48', Question.forced, hf, newRow, grownCap, Builtin.firstCells, hfx]
      refine ⟨_, _, _, hr, ⟨hlen, hrows, grownCap_ge w _ 0 e, grownCap_le_maxLen w _ 0 e (by unfold maxLen; omega), (fun h => by cases h), fun a ha => ?_⟩, ⟨rfl, rfl, rfl, by simp, fun k hk _ => heap_alloc_old w.drew _ hk⟩, fun k hk => .inr (by simp only [It.foot, Option.map_some, Option.some.injEq] at hk; omega), .inr ⟨_, rfl⟩, fun _ h => absurd h hm⟩
      simp only [Option.some.injEq] at ha
      subst ha
      have hge := grownCap_ge w (0 + s.size) 0 e
      refine ⟨rfl, _, heap_alloc_new w.drew _, ?_, fun j v hj => ?_⟩
      · simp only [Array.size_append, List.size_toArray, size_zeroCells, h4, Lib.strCells_length]; omega
      · simp only [List.nil_append, Nat.zero_add] at hj ⊢
        rw [brows_flat] at hj
        rw [Array.getElem?_append_left (by simpa using (List.getElem?_eq_some_iff.1 hj).1)]
        simpa using hj
  · obtain ⟨_, cur, hcur, hfit, hseg⟩ := hS.at_ _ rfl
    simp only [Nat.zero_add, Nat.mul_one] at hcur hfit hseg
    have hle := hS.le
    by_cases hroom : n + s.size ≤ c
    · have hr := Lib.run_append_room_string (P := P) w t u ty e i h1 hu.h h2 h5 b n c cur hcur s hroom (by omega)
      have hset := setRow_heap w b cur (cur.toList.take n ++ Lib.strCells s ++ cur.toList.drop (n + s.size)).toArray e (0, 0) hcur
      refine ⟨_, _, _, hr, ⟨hlen, hrows, hroom, hS.max, (fun h => by cases h), fun a ha => ?_⟩, ⟨rfl, rfl, rfl, by simp, fun k _ hk => setRow_other w b k _ (fun e => hk (by simp [feet, It.foot, e]))⟩, fun k hk => .inl (by simp only [It.foot, Option.map_some, Option.some.injEq] at hk; simp [feet, It.foot, hk]), .inr ⟨_, rfl⟩, fun h => by cases h⟩
      simp only [Option.some.injEq] at ha
      subst ha
      refine ⟨rfl, _, hset, ?_, fun j v hj => ?_⟩
      · simp only [List.size_toArray, List.length_append, List.length_take, List.length_drop, Array.length_toList, Lib.strCells_length]; omega
      · rw [hfl] at hj
        simp only [Nat.zero_add]
        rw [List.getElem?_toArray]
        have hl := Lib.strCells_length s
        have := lay_get (l := cur.toList) (r := Lib.strCells s) (o := n) (j := j) (by rw [hl]; simp; omega)
        rw [hl] at this
        rw [this]
        by_cases c1 : j < n
        · rw [if_pos c1]
          rw [List.getElem?_append_left (by omega)] at hj
          have := hseg j v hj
          simpa using this
        · rw [List.getElem?_append_right (by omega), hxl] at hj
          have hjl := (List.getElem?_eq_some_iff.1 hj).1
          rw [if_neg c1, if_pos (by omega)]
          exact hj
    · have hr := Lib.run_append_grow_string (P := P) w t u ty e i z h1 hu.h h2 h3 ⟨b, 0, none⟩ n c xs.flatten (by rw [h5]; omega) (fun j v hj => by
        rw [Addr.add_lit]; simp only [World.cell?, hcur, Nat.zero_add]; have := hseg j v hj; simpa using this) s (by omega) (by omega) (by rw [h6]; exact growslice_fits (by omega) (by omega))
      have hge := grownCap_ge w (n + s.size) c e
      refine ⟨_, _, _, hr, ⟨hlen, hrows, hge, grownCap_le_maxLen w _ c e (by unfold maxLen; omega), (fun h => by cases h), fun a ha => ?_⟩, ⟨rfl, rfl, rfl, by simp, fun k hk _ => heap_alloc_old w.drew _ hk⟩, fun k hk => .inr (by simp only [It.foot, Option.map_some, Option.some.injEq] at hk; omega), .inr ⟨_, rfl⟩, fun h => by cases h⟩
      simp only [Option.some.injEq] at ha
      subst ha
      refine ⟨rfl, _, heap_alloc_new w.drew _, ?_, fun j v hj => ?_⟩
      · simp only [Array.size_append, List.size_toArray, size_zeroCells, h4, Lib.strCells_length, hxl]; omega
      · rw [hfl] at hj
        simp only [Nat.zero_add]
        have hjl := (List.getElem?_eq_some_iff.1 hj).1
        rw [Array.getElem?_append_left (by simpa using hjl)]
        simpa using hj
theorem wo_app_str {d e n c : Nat} {ao : Option Addr} {xs : List (List Value)} {s : ByteArray} [hT : TSl P t e 1 1] [hu : TStr P t'] (hx : opd fr x = some (.slice ao n c)) (hy : opd fr y = some (.string s))
    (hs : hp.Perm (.own e 1 ao n c xs :: F)) (h0 : ao = none ∨ ∃ b, ao = some ⟨b, 0, none⟩) (hb : n + s.size ≤ 1099511627776) (hd : Nat.ble (d + 1) N = true)
    (h : ∀ ao' c', ((ao' = none ∧ n + s.size = 0) ∨ ∃ b, ao' = some ⟨b, 0, none⟩) → (ao = none → s.size = 0 → ao' = none) → (ao' = none → c' = 0) → WO P N E ops rest ⟨(d, .slice ao' (n + s.size) c') :: fr, .own e 1 ao' (n + s.size) c' (xs ++ brows s) :: F, ro⟩ Kn) : WO P N E ops (⟨some d, .call ⟨.builtin .append, #[x, y], #[t, t']⟩, ty, pos, af, none⟩ :: rest) ⟨fr, hp, ro⟩ Kn :=
  wo_eff (L := [_]) hs hd fun a w ok => by
    have hS : OwnSat w e 1 ao n c xs := ok.s.get hs
    obtain ⟨ao', c', w', h1, h2, h3, h4, h5, h6⟩ := run_append_str (P := P) (t := t) (u := t') (ty := ty) hS h0 s hb
    refine ⟨_, [.own e 1 ao' (n + s.size) c' (xs ++ brows s)], w', ?_, Sat.regrow h3 h2 h4, by simpa [putF] using h ao' c' h5 h6 h2.nil⟩
    simp only [execOp, resolve, List.map_toArray, List.map_cons, List.map_nil, ok.h.eval hx, ok.h.eval hy]
    simp only [Sem.run_bind, Sem.run_pure, Result.andThen_ok, invoke, builtin, h1]
theorem pv_neq_pp {e : TypeId} [h : TPtr P t e] [h2 : TAgg P e 2] {b o : Nat} (hx : opd fr x = some (.pointer (some ⟨b, o, none⟩))) (hy : opd fr y = some (.pointer (some ⟨b, o, none⟩))) : Pv P ⟨fr, hp, ro⟩ (.binOp .neq t x y t') (.bool false) := fun N E ac w dst ty pos af g ok => by
  have h1 : (Op.equal t (.pointer (some ⟨b, o, none⟩)) (.pointer (some ⟨b, o, none⟩))).run P w = .ok true w := by
    show Sem.run P (Op.equalIn (9999 + 1) t _ _) w = _
    rw [Op.equalIn]
    simp only [Sem.run_bind, run_underlying h.h, Result.andThen_ok]
    simp [run_sizeOf_agg (P := P) (T := e) (n := 2), sameAddr, go_sem]
  simp only [execOp, ok.h.eval hx, ok.h.eval hy]
  simp [eqGuard, binOp, h1, go_sem]
class TUns (P : Program) (T : TypeId) : Prop where h : P.underlying T = some .unsafePointer
theorem pv_tou {e b o : Nat} {l : List Value} {tt : TypeId} {fz : Nat × Nat} [h1 : TPtr P t e] [h2 : TUns P t'] [h3 : TAgg P e 2] (hx : opd fr x = some (.pointer (some ⟨b, o, none⟩))) (hs : hp.Perm (.ob b (.cells l.toArray tt fz) :: F)) (ho : Nat.ble (o + 1) l.length = true) :
    Pv P ⟨fr, hp, ro⟩ (.convert t t' x) (.pointer (some ⟨b, o, none⟩)) := fun N E ac w dst ty pos af g ok => by
  obtain ⟨d, i, h4, h5, h6, _⟩ := agg_und h3.h
  have hc : w.heap[b]? = some (.cells l.toArray tt fz) := ok.s.get hs
  have := Lib.run_to_unsafe (P := P) (w := w) (e := tt) (cells := l.length) ⟨b, o, none⟩ h1.h h2.h h5 (by omega) (by simp [World.shape?, hc]) (Nat.le_of_ble_eq_true ho)
  simp only [execOp, ok.h.eval hx, Sem.run_bind, this, Result.andThen_ok]; rfl
theorem pv_fromu {e b o : Nat} {l : List Value} {tt : TypeId} {fz : Nat × Nat} [h1 : TUns P t] [h2 : TPtr P t' e] [h3 : TAgg P e 2] (hx : opd fr x = some (.pointer (some ⟨b, o, none⟩))) (hs : hp.Perm (.ob b (.cells l.toArray tt fz) :: F)) (ho : liesAt P P.depth tt (l.length / P.cellsOf tt) o e 1 = true) :
    Pv P ⟨fr, hp, ro⟩ (.convert t t' x) (.pointer (some ⟨b, o, none⟩)) := fun N E ac w dst ty pos af g ok => by
  obtain ⟨d, i, h4, h5, h6, _⟩ := agg_und h3.h
  have hc : w.heap[b]? = some (.cells l.toArray tt fz) := ok.s.get hs
  have := Lib.run_from_unsafe (P := P) (w := w) (e := tt) (cells := l.length) ⟨b, o, none⟩ h1.h h2.h h5 (by simp [World.shape?, hc]) ho
  simp only [execOp, ok.h.eval hx, Sem.run_bind, this, Result.andThen_ok]; rfl
theorem pv_ext {f : FuncId} {fn : Func} {e : Array Value → Sem Value} {ats : Array TypeId} (hf : P.funcs[f]? = some fn) (hname : (fn.name == "runtime.NumGoroutine") = false) (hb : fn.body.isNone = true) (hn : Extern.findNext fn = none) (he : Extern.find fn = some e)
    (hx : opd fr x = some v) (hv : ∀ w, (e #[v]).run P w = .ok v w) : Pv P ⟨fr, hp, ro⟩ (.call ⟨.value (.func f), #[x], ats⟩) v := fun N E ac w dst ty pos af g ok => by
  have h1 := run_callFunc_extern (P := P) hf hname hb hn he #[v] w
  rw [hv w] at h1
  simp only [execOp, resolve, List.map_toArray, List.map_cons, List.map_nil, ok.h.eval hx]
  simp [Deferred.ofValue, Act.eval, invoke, h1, go_sem]
theorem pv_sld {b o n c : Nat} {ats : Array TypeId} (hx : opd fr x = some (.slice (some ⟨b, o, none⟩) n c)) (hc : 0 < c) : Pv P ⟨fr, hp, ro⟩ (.call ⟨.builtin .unsafeSliceData, #[x], ats⟩) (.pointer (some ⟨b, o, none⟩)) := fun N E ac w dst ty pos af g ok => by
  have := Lib.run_unsafeSliceData_row (P := P) w ats ty ⟨b, o, none⟩ n c (by omega)
  simp only [execOp, resolve, List.map_toArray, List.map_cons, List.map_nil, ok.h.eval hx]
  simp [invoke, builtin, this, go_sem]
theorem pv_sld0 {ats : Array TypeId} (hx : opd fr x = some (.slice none 0 0)) : Pv P ⟨fr, hp, ro⟩ (.call ⟨.builtin .unsafeSliceData, #[x], ats⟩) (.pointer none) := fun N E ac w dst ty pos af g ok => by
  have := Lib.run_unsafeSliceData_nil (P := P) w ats ty 0 0
  simp only [execOp, resolve, List.map_toArray, List.map_cons, List.map_nil, ok.h.eval hx]
  simp [invoke, builtin, this, go_sem]
theorem pv_ustr0 {t1 t2 : TypeId} (hx : opd fr x = some (.pointer none)) (hy : opd fr y = some (.int .i64 0)) : Pv P ⟨fr, hp, ro⟩ (.call ⟨.builtin .unsafeString, #[x, y], #[t1, t2]⟩) (.string .empty) := fun N E ac w dst ty pos af g ok => by
  have := Lib.run_unsafeString_none (P := P) w t1 t2 ty none
  simp only [execOp, resolve, List.map_toArray, List.map_cons, List.map_nil, ok.h.eval hx, ok.h.eval hy]
  simp [invoke, builtin, this, go_sem]
/-- the bytes of a buffer, as a string; the buffer is nobody's any more -/
theorem wo_ustr {d e b c : Nat} {s : ByteArray} {t1 t2 : TypeId} [h1 : TPtr P t1 e] [h2 : TInt P e .u8] (hc : P.cellsOf e = 1) (hx : opd fr x = some (.pointer (some ⟨b, 0, none⟩))) (hy : opd fr y = some (.int .i64 s.size)) (hs : hp.Perm (.own e 1 (some ⟨b, 0, none⟩) s.size c (brows s) :: F)) (h0 : 0 < s.size) (hd : Nat.ble (d + 1) N = true)
    (h : WO P N E ops rest ⟨(d, .string s) :: fr, F, ro⟩ Kn) : WO P N E ops (⟨some d, .call ⟨.builtin .unsafeString, #[x, y], #[t1, t2]⟩, ty, pos, af, none⟩ :: rest) ⟨fr, hp, ro⟩ Kn :=
  wo_eff (L := [_]) hs hd fun a w ok => by
    have hO : OwnSat w e 1 (some ⟨b, 0, none⟩) s.size c (brows s) := ok.s.get hs
    obtain ⟨_, cur, hcur, hfit, hseg⟩ := hO.at_ _ rfl
    simp only at hcur hfit hseg
    have hle := hO.le
    have hm := hO.max
    have hl : s.data.toList.length = s.size := by first | (simp; done) | (simp; rfl)
    have hr := Lib.run_unsafeString_row (P := P) w t1 t2 ty e h1.h hc b cur.size (by simp [World.shape?, hcur]) s.data.toList (by intro e0; rw [e0] at hl; simp at hl; omega) (by rw [hl]; omega) (by rw [hl]; unfold maxLen at hm; omega)
      (fun j v hj => by
        rw [Addr.add_lit]
        simp only [World.cell?, hcur]
        refine hseg j _ ?_
        rw [brows_flat]
        simp [Lib.strCells] at hj ⊢
        exact ⟨v, hj, rfl⟩)
    rw [hl] at hr
    refine ⟨.string s, [], w.freeze ⟨b, 0, none⟩ s.size, ?_, ?_, by simpa [putF] using h⟩
    · simp only [execOp, resolve, List.map_toArray, List.map_cons, List.map_nil, ok.h.eval hx, ok.h.eval hy]
      simp [invoke, builtin, hr, go_sem]
    · have hfz := Lib.below_freeze (B := 0) (Below.refl 0 w) (p := ⟨b, 0, none⟩) (Nat.zero_le _) s.size
      refine ⟨⟨?_, ?_, ?_, ?_, fun k hk hn => ?_⟩, (by intro x hx; cases hx), (by intro x hx; cases hx), .nil, (by intro r hr; cases hr), (by intro r hr; cases hr), (by intro r hr; cases hr)⟩
      · unfold World.freeze; split <;> rfl
      · unfold World.freeze; split <;> rfl
      · unfold World.freeze; split <;> rfl
      · unfold World.freeze; split <;> simp
      · have hne : b ≠ k := fun e0 => hn (by simp [feet, It.foot, e0])
        unfold World.freeze
        split
        · rfl
        · simp [Array.getElem?_modify, hne]
theorem pv_cs_lo {s : ByteArray} {z : Int} {lo : Operand} [hT : TStr P T] (hx : opd fr x = some (.string s)) (hl : opd fr lo = some (.int k z)) (h : 0 ≤ z ∧ z ≤ s.size) : Pv P ⟨fr, hp, ro⟩ (.slice T x (some lo) none none) (.string (s.extract z.toNat s.size)) :=
  pv_cut_s hx (.lo hl (by omega) (by omega))
theorem pv_cs_hi {s : ByteArray} {z : Int} {hi : Operand} [hT : TStr P T] (hx : opd fr x = some (.string s)) (hl : opd fr hi = some (.int k z)) (h : 0 ≤ z ∧ z ≤ s.size) : Pv P ⟨fr, hp, ro⟩ (.slice T x none (some hi) none) (.string (s.extract 0 z.toNat)) :=
  pv_cut_s hx (.hi hl (by omega) (by omega))
end
end Go.Proofs.Ytlhlidmhlhodiaa

/-
  Sparse frames: structures compared, slices that are only read (cut, appended, appended to), items that are only read from now on. No program in sight.
-/
namespace Go.Proofs.Ytlhlidmhlhodiaa
set_option linter.unusedSimpArgs false
set_option linter.unusedVariables false
open Go.RowKit

/-! ## structures of plain fields compared -/
inductive Kd where
  | i (k : IntKind)
  | b
  | s
def kdOf : TypeDesc → Option Kd
  | .int k => some (.i k)
  | .bool => some .b
  | .string => some .s
  | _ => none
def chkF (P : Program) : Nat → List Field → Option (List Kd)
  | _, [] => some []
  | n, f :: fs => match P.underlying f.type, P.info? f.type with
    | some d, some i => match kdOf d, chkF P (n + 1) fs with
      | some k, some ks => if f.name ≠ "_" ∧ f.offset = n ∧ i.size = 1 then some (k :: ks) else none
      | _, _ => none
    | _, _ => none
def eqB (P : Program) (T : TypeId) : Option (List Kd) := match P.underlying T with
  | some (.struct fs) => if P.stoodInHeld T = false ∧ P.eqGuardType P.depth T = false then chkF P 0 fs.toList else none
  | _ => none
class TEq (P : Program) (T : TypeId) (ks : outParam (List Kd)) : Prop where h : eqB P T = some ks
def fits : List Kd → List Value → Bool
  | [], [] => true
  | .i k :: ks, .int k' _ :: l => decide (k = k') && fits ks l
  | .b :: ks, .bool _ :: l => fits ks l
  | .s :: ks, .string _ :: l => fits ks l
  | _, _ => false
def eqRow : List Value → List Value → Bool
  | .int _ a :: l, .int _ b :: m => decide (a = b) && eqRow l m
  | .bool a :: l, .bool b :: m => decide (a = b) && eqRow l m
  | .string a :: l, .string b :: m => decide (a = b) && eqRow l m
  | [], [] => true
  | _, _ => false
theorem eqRow_refl : ∀ (ks : List Kd) (l : List Value), fits ks l = true → eqRow l l = true
  | [], [], _ => rfl
  | [], v :: _, h => by cases v <;> simp [fits] at h
  | .i k :: ks, v :: l, h => by
    cases v <;> simp only [fits, Bool.false_eq_true] at h
    simp only [Bool.and_eq_true] at h
    simp [eqRow, eqRow_refl ks l h.2]
  | .b :: ks, v :: l, h => by
    cases v <;> simp only [fits, Bool.false_eq_true] at h
    simp [eqRow, eqRow_refl ks l h]
  | .s :: ks, v :: l, h => by
    cases v <;> simp only [fits, Bool.false_eq_true] at h
    simp [eqRow, eqRow_refl ks l h]
  | .i _ :: _, [], h => by simp [fits] at h
  | .b :: _, [], h => by simp [fits] at h
  | .s :: _, [], h => by simp [fits] at h
def EqRow (l m : List Value) : Prop := eqRow l m = true
instance (l m : List Value) : Decidable (EqRow l m) := inferInstanceAs (Decidable (eqRow l m = true))
theorem eqRow_dec (l m : List Value) : eqRow l m = decide (EqRow l m) := by
  rw [Bool.eq_iff_iff, decide_eq_true_eq]; rfl

theorem run_part1 {P : Program} {w : World} {t : TypeId} {cs : Array Value} {n : Nat} {v : Value} {d : TypeDesc} {i : TypeInfo} {k : Kd} (hu : P.underlying t = some d) (hi : P.info? t = some i) (hk : kdOf d = some k) (h1 : i.size = 1) (h : cs[n]? = some v) : (part t cs n).run P w = .ok v w := by
  have : TOne P t := ⟨by unfold oneB; rw [hu, hi]; cases d <;> simp [kdOf] at hk <;> simp [plainD, h1]⟩
  unfold part
  simp only [Sem.run_bind, run_isAgg_one, Result.andThen_ok, Bool.false_eq_true, if_false]
  rw [h]; rfl
theorem run_eqFields_row {P : Program} {w : World} {d : Nat} {r1 r2 : Array Value} : ∀ (fs : List Field) (n : Nat) (ks : List Kd) (l m : List Value), chkF P n fs = some ks → r1.toList.drop n = l → r2.toList.drop n = m → fits ks l = true → fits ks m = true →
    (Op.eqFields (d + 1) r1 r2 fs).run P w = .ok (eqRow l m) w
  | [], n, ks, l, m, hc, h1, h2, f1, f2 => by
    simp only [chkF, Option.some.injEq] at hc
    subst hc
    cases l with
    | cons v l => cases v <;> simp [fits] at f1
    | nil =>
      cases m with
      | cons v l => cases v <;> simp [fits] at f2
      | nil => simp [Op.eqFields, eqRow]
  | f :: fs, n, ks, l, m, hc, h1, h2, f1, f2 => by
    unfold chkF at hc
    split at hc
    · rename_i dd i hu hi
      split at hc
      · rename_i k ks' hk hks
        split at hc
        · rename_i hcond
          simp only [Option.some.injEq] at hc
          subst hc
          cases l with
          | nil => cases k <;> simp [fits] at f1
          | cons u l =>
            cases m with
            | nil => cases k <;> simp [fits] at f2
            | cons v m =>
              have g1 : r1[n]? = some u := by
                have := congrArg (fun z : List Value => z[0]?) h1
                simpa using this
              have g2 : r2[n]? = some v := by
                have := congrArg (fun z : List Value => z[0]?) h2
                simpa using this
              have d1 : r1.toList.drop (n + 1) = l := by rw [← List.drop_drop, h1]; rfl
              have d2 : r2.toList.drop (n + 1) = m := by rw [← List.drop_drop, h2]; rfl
              unfold Op.eqFields
              rw [if_pos hcond.1]
              simp only [Sem.run_bind, hcond.2.1, run_part1 hu hi hk hcond.2.2 g1, run_part1 hu hi hk hcond.2.2 g2, Result.andThen_ok]
              have key : ∀ b : Bool, (Op.equalIn (d + 1) f.type u v).run P w = .ok b w → eqRow (u :: l) (v :: m) = (b && eqRow l m) → (fits ks' l = true ∧ fits ks' m = true) → ((Op.equalIn (d + 1) f.type u v).run P w).andThen (fun r w' => (if (!r) = true then pure false else Op.eqFields (d + 1) r1 r2 fs : Sem Bool).run P w') = .ok (eqRow (u :: l) (v :: m)) w := by
                intro b hb he hf
                rw [hb, he, Result.andThen_ok]
                cases b with
                | false => simp
                | true =>
                  simp only [Bool.not_true, Bool.false_eq_true, if_false, Bool.true_and]
                  exact run_eqFields_row fs (n + 1) ks' l m hks d1 d2 hf.1 hf.2
              cases k with
              | i k =>
                have hdd : dd = .int k := by cases dd <;> simp [kdOf] at hk; rw [hk]
                subst hdd
                cases u <;> simp only [fits, Bool.false_eq_true] at f1
                cases v <;> simp only [fits, Bool.false_eq_true] at f2
                simp only [Bool.and_eq_true, decide_eq_true_eq] at f1 f2
                obtain ⟨rfl, f1⟩ := f1
                obtain ⟨rfl, f2⟩ := f2
                refine key _ (run_equalIn_int w d f.type _ _ _ _ hu) ?_ ⟨f1, f2⟩
                simp only [eqRow]
                congr 1
              | b =>
                have hdd : dd = .bool := by cases dd <;> simp [kdOf] at hk; rfl
                subst hdd
                cases u <;> simp only [fits, Bool.false_eq_true] at f1
                cases v <;> simp only [fits, Bool.false_eq_true] at f2
                refine key _ (run_equalIn_bool' w d f.type _ _ hu) ?_ ⟨f1, f2⟩
                simp only [eqRow]
                congr 1
              | s =>
                have hdd : dd = .string := by cases dd <;> simp [kdOf] at hk; rfl
                subst hdd
                cases u <;> simp only [fits, Bool.false_eq_true] at f1
                cases v <;> simp only [fits, Bool.false_eq_true] at f2
                refine key _ (run_equalIn_string w d f.type _ _ hu) ?_ ⟨f1, f2⟩
                simp only [eqRow, str_beq]
        · cases hc
      · cases hc
    · cases hc
section
variable {P : Program} {fr : List (Nat × Value)} {hp : List It} {ro : List Ro} {T t t' : TypeId} {x y c : Operand} {v u : Value} {F : List It}
theorem run_eq_row {w : World} {ks : List Kd} {r1 r2 : List Value} (h : TEq P t ks) (h1 : fits ks r1 = true) (h2 : fits ks r2 = true) : (Op.equalIn 10000 t (.agg r1.toArray) (.agg r2.toArray)).run P w = .ok (eqRow r1 r2) w ∧ P.eqGuardType P.depth t = false := by
  have h := h.h
  unfold eqB at h
  split at h
  · rename_i fs hu
    split at h
    · rename_i hg
      have hf : P.fieldsOf t = fs := by unfold Program.fieldsOf; rw [hu]
      rw [run_equalIn_struct w 9999 t _ _ (by rw [hf]; exact hu) hg.1, hf]
      exact ⟨run_eqFields_row fs.toList 0 ks r1 r2 h rfl rfl h1 h2, hg.2⟩
    · cases h
  · cases h
theorem pv_eql_a {ks : List Kd} {r1 r2 : List Value} (hx : opd fr x = some (.agg r1.toArray)) (hy : opd fr y = some (.agg r2.toArray)) (h : TEq P t ks) (h1 : fits ks r1 = true) (h2 : fits ks r2 = true) : Pv P ⟨fr, hp, ro⟩ (.binOp .eql t x y t') (.bool (decide (EqRow r1 r2))) := fun N E ac w dst ty pos af g ok => by
  obtain ⟨e1, e2⟩ := run_eq_row (w := w) h h1 h2
  simp only [execOp, ok.h.eval hx, ok.h.eval hy, Sem.run_bind, run_eqGuard_agg w .eql t x y _ _ e2, Result.andThen_ok, run_eql_struct, e1, Sem.run_pure, eqRow_dec]
theorem pv_neq_a {ks : List Kd} {r1 r2 : List Value} (hx : opd fr x = some (.agg r1.toArray)) (hy : opd fr y = some (.agg r2.toArray)) (h : TEq P t ks) (h1 : fits ks r1 = true) (h2 : fits ks r2 = true) : Pv P ⟨fr, hp, ro⟩ (.binOp .neq t x y t') (.bool (decide (¬ EqRow r1 r2))) := fun N E ac w dst ty pos af g ok => by
  obtain ⟨e1, e2⟩ := run_eq_row (w := w) h h1 h2
  simp only [execOp, ok.h.eval hx, ok.h.eval hy, Sem.run_bind, run_eqGuard_agg w .neq t x y _ _ e2, Result.andThen_ok, run_neq_struct, e1, Sem.run_pure, eqRow_dec, decide_not]
end

/-! ## slices that are only read -/
structure SR (R : List Ro) (sz : Nat) (ao : Option Addr) (n c : Nat) (xs : List (List Value)) : Prop where
  len : xs.length = n
  le : n ≤ c
  mx : c ≤ maxLen
  rows : RowsOk sz xs
  at_ : (ao = none ∧ c = 0) ∨ ∃ b o, ao = some ⟨b, o, none⟩ ∧ (0 < n → ⟨b, o, sz, xs⟩ ∈ R)
theorem SR.mono {R R' : List Ro} {sz : Nat} {ao : Option Addr} {n c : Nat} {xs : List (List Value)} (h : SR R sz ao n c xs) (hR : ∀ r ∈ R, r ∈ R') : SR R' sz ao n c xs :=
  ⟨h.len, h.le, h.mx, h.rows, h.at_.imp id (fun ⟨b, o, e, m⟩ => ⟨b, o, e, fun h0 => hR _ (m h0)⟩)⟩
theorem SR.pos {R : List Ro} {sz : Nat} {ao : Option Addr} {n c : Nat} {xs : List (List Value)} (h : SR R sz ao n c xs) (h0 : 0 < n) : ∃ b o, ao = some ⟨b, o, none⟩ ∧ ⟨b, o, sz, xs⟩ ∈ R := by
  rcases h.at_ with ⟨_, h1⟩ | ⟨b, o, e, m⟩
  · have := h.le; omega
  · exact ⟨b, o, e, m h0⟩
theorem SR.nil (R : List Ro) (sz : Nat) : SR R sz none 0 0 [] := ⟨rfl, Nat.le_refl _, Nat.zero_le _, (fun r h => by cases h), .inl ⟨rfl, rfl⟩⟩
theorem SR.cut {R : List Ro} {sz b o n c l h m : Nat} {xs : List (List Value)} (hS : SR R sz (some ⟨b, o, none⟩) n c xs) (hlh : l ≤ h ∧ h ≤ n ∧ h ≤ m ∧ m ≤ c) :
    SR (⟨b, elt o l sz, sz, (xs.take h).drop l⟩ :: R) sz (if m = l then some ⟨b, o, none⟩ else (some (⟨b, o, none⟩ : Addr)).map (·.add (l * sz))) (h - l) (m - l) ((xs.take h).drop l) := by
  refine ⟨by simp [hS.len]; omega, by omega, Nat.le_trans (Nat.sub_le _ _) (Nat.le_trans hlh.2.2.2 hS.mx), fun r hr => hS.rows r (List.mem_of_mem_take (List.mem_of_mem_drop hr)), .inr ?_⟩
  by_cases c1 : m = l
  · exact ⟨b, o, by rw [if_pos c1], fun h0 => by omega⟩
  · exact ⟨b, elt o l sz, by rw [if_neg c1, Option.map_some, Addr.add_lit]; rfl, fun _ => .head _⟩
section
variable {P : Program} {N : Nat} {E : Env} {fr : List (Nat × Value)} {hp F : List It} {ro : List Ro} {T : TypeId} {x y : Operand} {ops : Array Oper} {rest : List Oper} {Kn Kr : St → Prop} {Kx : List (Nat × (St → Prop))} {ty : TypeId} {pos : String} {af : Array Edge}
/-- a cut's value; what is read behind it: wo_ro, wc_ro -/
theorem pv_cut {e sz by_ n c l h m : Nat} {ao : Option Addr} {lo hi mx : Option Operand} (hT : TSl P T e sz by_) (hx : opd fr x = some (.slice ao n c)) (hb : Bnds fr n c lo hi mx l h m) :
    Pv P ⟨fr, hp, ro⟩ (.slice T x lo hi mx) (.slice (if m = l then ao else ao.map (·.add (l * sz))) (h - l) (m - l)) := fun N E a w dst ty pos af g ok => exec_cut ok.h hx hb
theorem Sat.more {B : World} {S T : List Nat} {w : World} {b o sz l h : Nat} {xs : List (List Value)} (hs : Sat B S T hp ro w) (hr : ⟨b, o, sz, xs⟩ ∈ ro) : Sat B S T hp (⟨b, elt o l sz, sz, (xs.take h).drop l⟩ :: ro) w := by
  refine ⟨hs.frm, hs.sat, hs.own, hs.dis, fun r hr' => ?_, fun r hr' => ?_, fun r hr' => ?_⟩
  · rcases List.mem_cons.1 hr' with rfl | hr'
    · exact Ro.cut (hs.rds _ hr)
    · exact hs.rds r hr'
  · rcases List.mem_cons.1 hr' with rfl | hr'
    · exact hs.rod ⟨b, o, sz, xs⟩ hr
    · exact hs.rod r hr'
  · rcases List.mem_cons.1 hr' with rfl | hr'
    · exact hs.rok ⟨b, o, sz, xs⟩ hr
    · exact hs.rok r hr'
theorem wo_ro {b o sz : Nat} {xs : List (List Value)} (l h : Nat) (hr : ⟨b, o, sz, xs⟩ ∈ ro) (hk : WO P N E ops rest ⟨fr, hp, ⟨b, elt o l sz, sz, (xs.take h).drop l⟩ :: ro⟩ Kn) : WO P N E ops rest ⟨fr, hp, ro⟩ Kn := fun Q hQ a w ok => hk Q hQ a w ⟨ok.h, ok.s.more hr⟩
theorem wc_ro {c : Code} {b o sz : Nat} {xs : List (List Value)} (l h : Nat) (hr : ⟨b, o, sz, xs⟩ ∈ ro) (hk : WC P N E c ⟨fr, hp, ⟨b, elt o l sz, sz, (xs.take h).drop l⟩ :: ro⟩ Kn Kx Kr) : WC P N E c ⟨fr, hp, ro⟩ Kn Kx Kr := fun a w ok => hk a w ⟨ok.h, ok.s.more hr⟩
/-- an owned slice is only read from now on -/
theorem Sat.still {B : World} {S T : List Nat} {w : World} {e sz n c : Nat} {ao : Option Addr} {xs : List (List Value)} (hs : Sat B S T hp ro w) (hpm : hp.Perm (.own e sz ao n c xs :: F)) : ∃ R, (R = [] ∨ ∃ r, R = [r]) ∧ SR (R ++ ro) sz ao n c xs ∧ Sat B S T F (R ++ ro) w := by
  have h := hs.perm hpm
  have hO : OwnSat w e sz ao n c xs := h.sat _ (.head _)
  have hF : Sat B S T F ro w := ⟨h.frm, fun x hx => h.sat x (.tail _ hx), fun x hx => h.own x (.tail _ hx), (List.pairwise_cons.1 h.dis).2, h.rds, fun r hr x hx => h.rod r hr x (.tail _ hx), h.rok⟩
  cases ao with
  | none => exact ⟨[], .inl rfl, ⟨hO.len, hO.le, hO.max, hO.rows, .inl ⟨rfl, hO.nil rfl⟩⟩, hF⟩
  | some a =>
    obtain ⟨hsp, cur, hcur, hfit, hseg⟩ := hO.at_ a rfl
    obtain ⟨b, o, s⟩ := a
    simp only at hsp hcur hseg
    subst hsp
    refine ⟨[⟨b, o, sz, xs⟩], .inr ⟨_, rfl⟩, ⟨hO.len, hO.le, hO.max, hO.rows, .inr ⟨b, o, rfl, fun _ => .head _⟩⟩, ⟨hF.frm, hF.sat, hF.own, hF.dis, fun r hr => ?_, fun r hr x hx => ?_, fun r hr => ?_⟩⟩
    · rcases List.mem_cons.1 hr with rfl | hr
      · exact ⟨hO.rows, cur, e, (0, 0), hcur, hseg⟩
      · exact hF.rds r hr
    · rcases List.mem_cons.1 hr with rfl | hr
      · exact fun hx' => (List.pairwise_cons.1 h.dis).1 x hx b rfl hx'
      · exact hF.rod r hr x hx
    · rcases List.mem_cons.1 hr with rfl | hr
      · rcases h.own _ (.head _) b rfl with h1 | h1
        · exact .inl h1
        · exact .inr (.inr h1)
      · exact hF.rok r hr
theorem wo_still {e sz n c : Nat} {ao : Option Addr} {xs : List (List Value)} (hpm : hp.Perm (.own e sz ao n c xs :: F)) (hk : ∀ R, SR (R ++ ro) sz ao n c xs → WO P N E ops rest ⟨fr, F, R ++ ro⟩ Kn) : WO P N E ops rest ⟨fr, hp, ro⟩ Kn := fun Q hQ a w ok => by
  obtain ⟨R, _, h1, h2⟩ := ok.s.still hpm
  exact hk R h1 Q hQ a w ⟨ok.h, h2⟩
theorem wc_still {cd : Code} {e sz n c : Nat} {ao : Option Addr} {xs : List (List Value)} (hpm : hp.Perm (.own e sz ao n c xs :: F)) (hk : ∀ R, SR (R ++ ro) sz ao n c xs → WC P N E cd ⟨fr, F, R ++ ro⟩ Kn Kx Kr) : WC P N E cd ⟨fr, hp, ro⟩ Kn Kx Kr := fun a w ok => by
  obtain ⟨R, _, h1, h2⟩ := ok.s.still hpm
  exact hk R h1 a w ⟨ok.h, h2⟩
/-- append of a slice that is only read -/
theorem app_sr_run {w : World} {t e sz by_ n c m c2 : Nat} {ao ao2 : Option Addr} {xs ys : List (List Value)} [TSl P t e sz by_] (hS : OwnSat w e sz ao n c xs) (hr : SR ro sz ao2 m c2 ys) (hrd : ∀ r ∈ ro, r.sat w) (b1 : n + m ≤ maxLen) (b2 : (n + m) * by_ ≤ 140737488355328) :
    ∃ ao' c' w', (Builtin.append_ #[t, t] ty #[.slice ao n c, .slice ao2 m c2]).run P w = .ok (.slice ao' (n + m) c') w' ∧ OwnSat w' e sz ao' (n + m) c' (xs ++ ys) ∧ Frm (feet [It.own e sz ao n c xs]) w w' ∧
      (∀ b, (It.own e sz ao' (n + m) c' (xs ++ ys)).foot = some b → b ∈ feet [It.own e sz ao n c xs] ∨ w.heap.size ≤ b) := by
  rcases hr.at_ with ⟨rfl, h0⟩ | ⟨b, o, rfl, hm⟩
  · obtain ⟨i, z, h1, h2, h3, h4, h5, h6, h7⟩ := sl_und (TSl.h (P := P) (T := t))
    have hle := hr.le
    have hm0 : m = 0 := by omega
    subst hm0
    obtain rfl : ys = [] := List.eq_nil_of_length_eq_zero hr.len
    refine ⟨ao, c, w, ?_, by simpa using hS, Frm.refl _ _, fun b hb => .inl (mem_feet.2 ⟨_, .head _, by simpa using hb⟩)⟩
    have hn0 : n + 0 ≤ c := by have := hS.le; omega
    cases ao <;> simp [Builtin.append_, run_underlying h1, sizeOf, typeInfo, h2, Builtin.lenOf, hn0, Builtin.firstCells, storeCells, go_sem] <;> (have := hS.le; omega)
  · have hc : ∀ j u, ys.flatten[j]? = some u → w.cell? ((⟨b, o, none⟩ : Addr).add j) = some u := fun j u hj => by
      by_cases h0 : 0 < m
      · obtain ⟨hro, cur, tt, fz, hcur, hseg⟩ := hrd _ (hm h0)
        simp only at hcur hseg
        rw [Addr.add_lit]; simp only [World.cell?, hcur]; exact hseg j u hj
      · obtain rfl : ys = [] := List.eq_nil_of_length_eq_zero (by rw [hr.len]; omega)
        simp at hj
    obtain ⟨ao', c', w', h1, h2, h3, h4, h5⟩ := run_append_sl (P := P) (t := t) (ty := ty) (ad := ⟨b, o, none⟩) (c2 := c2) hS hr.rows hr.len hc b1 b2
    exact ⟨ao', c', w', h1, h2, h3, h4⟩
theorem wo_app_sr {d t e sz by_ n c m c2 : Nat} {ao ao2 : Option Addr} {xs ys : List (List Value)} [TSl P t e sz by_] (hx : opd fr x = some (.slice ao n c)) (hy : opd fr y = some (.slice ao2 m c2))
    (hs : hp.Perm (.own e sz ao n c xs :: F)) (hr : SR ro sz ao2 m c2 ys) (b1 : n + m ≤ maxLen) (b2 : (n + m) * by_ ≤ 140737488355328) (hd : Nat.ble (d + 1) N = true)
    (h : ∀ ao' c', WO P N E ops rest ⟨(d, .slice ao' (n + m) c') :: fr, .own e sz ao' (n + m) c' (xs ++ ys) :: F, ro⟩ Kn) : WO P N E ops (⟨some d, .call ⟨.builtin .append, #[x, y], #[t, t]⟩, ty, pos, af, none⟩ :: rest) ⟨fr, hp, ro⟩ Kn :=
  wo_eff (L := [_]) hs hd fun a w ok => by
    obtain ⟨ao', c', w', h1, h2, h3, h4⟩ := app_sr_run (P := P) (t := t) (ty := ty) (ok.s.get hs) hr ok.s.rds b1 b2
    exact ⟨_, [.own e sz ao' (n + m) c' (xs ++ ys)], w', exec_append (ok.h.eval hx) (ok.h.eval hy) h1, Sat.regrow h3 h2 h4, by simpa [putF] using h ao' c'⟩
/-- append to a slice that is only read and full: a block of its own -/
theorem app_full_run {w : World} {t e sz by_ n m c2 b2 o2 : Nat} {ao : Option Addr} {xs ys : List (List Value)} [TSl P t e sz by_] (hr : SR ro sz ao n n xs) (hrd : ∀ r ∈ ro, r.sat w) (hS : OwnSat w e sz (some ⟨b2, o2, none⟩) m c2 ys) (h0 : 0 < m) (hb1 : n + m ≤ maxLen) (hb2 : (n + m) * by_ ≤ 140737488355328) :
    ∃ ao' c' w', (Builtin.append_ #[t, t] ty #[.slice ao n n, .slice (some ⟨b2, o2, none⟩) m c2]).run P w = .ok (.slice ao' (n + m) c') w' ∧ (It.own e sz ao' (n + m) c' (xs ++ ys)).sat w' ∧ Frm [] w w' ∧ ∀ b, (It.own e sz ao' (n + m) c' (xs ++ ys)).foot = some b → w.heap.size ≤ b := by
  obtain ⟨_, cur2, hcur2, _, hseg2⟩ := hS.at_ _ rfl
  simp only at hcur2 hseg2
  have hny : ∀ j u, ys.flatten[j]? = some u → w.cell? ((⟨b2, o2, none⟩ : Addr).add j) = some u := fun j u hj => by
    rw [Addr.add_lit]; simp only [World.cell?, hcur2]; exact hseg2 j u hj
  obtain ⟨i, z, h1, h2, h3, h4, h5, h6, h7⟩ := sl_und (TSl.h (P := P) (T := t))
  have hxl : xs.flatten.length = n * sz := by rw [flat_len hr.rows.lens, hr.len]
  have hyl : ys.flatten.length = m * sz := by rw [flat_len hS.rows.lens, hS.len]
  have hone : ∀ u ∈ ys.flatten, u.oneCell' = true := fun u hu => by
    obtain ⟨r, hr, hu⟩ := List.mem_flatten.1 hu
    exact (hS.rows r hr).2 u hu
  have hrows : RowsOk sz (xs ++ ys) := fun r hr' => by
    rcases List.mem_append.1 hr' with hr' | hr'
    · exact hr.rows r hr'
    · exact hS.rows r hr'
  have hlen : (xs ++ ys).length = n + m := by simp [hr.len, hS.len]
  obtain ⟨v', w', hrun, hO, hg⟩ : ∃ v' w', (Builtin.append_ #[t, t] ty #[.slice ao n n, .slice (some ⟨b2, o2, none⟩) m c2]).run P w = .ok v' w' ∧ w'.ownsRow w.heap.size e sz v' (n + m) (xs.flatten ++ ys.flatten) ∧ w.grownBy w' none := by
    rcases hr.at_ with ⟨rfl, hn0⟩ | ⟨b, o, rfl, hm⟩
    · subst hn0
      obtain rfl : xs = [] := List.eq_nil_of_length_eq_zero hr.len
      obtain ⟨v', w', hr, ho, hg, _⟩ := run_append_own (P := P) w w.heap.size t ty e i z sz by_ h1 h2 h3 h5 h6 h4 h7 (.slice none 0 0) 0 [] (World.ownsRow_nil w _ e sz) ⟨b2, o2, none⟩ m c2 ys.flatten hyl hny hone hb1 hb2 (Nat.le_refl _)
      exact ⟨v', w', hr, by simpa using ho, hg⟩
    · exact run_append_arg_grows (P := P) w t ty e i z sz by_ h1 h2 h3 h5 h6 h4 h7 ⟨b, o, none⟩ n n xs.flatten hxl (fun j u hj => by
        have hn : 0 < n := by
          rcases Nat.eq_zero_or_pos n with h' | h'
          · obtain rfl : xs = [] := List.eq_nil_of_length_eq_zero (by rw [hr.len]; omega)
            simp at hj
          · exact h'
        obtain ⟨_, cur, tt, fz, hcur, hseg⟩ := hrd _ (hm hn)
        simp only at hcur hseg
        rw [Addr.add_lit]; simp only [World.cell?, hcur]; exact hseg j u hj) ⟨b2, o2, none⟩ m c2 ys.flatten hyl hny (by omega) hb1 hb2
  rw [← List.flatten_append] at hO
  obtain ⟨ao', c', rfl, hO2, hB⟩ := own_of_row hrows hlen hO
  refine ⟨ao', c', w', hrun, hO2, ⟨hg.os, hg.tape, hg.output, hg.size, fun k hk _ => hg.block k hk (by simp)⟩, fun b hb => ?_⟩
  cases ao' with
  | none => cases hb
  | some a =>
    simp only [It.foot, Option.map_some, Option.some.injEq] at hb
    subst hb
    exact (hB a rfl).1
theorem wo_app_full {d t e sz by_ n m c2 b2 o2 : Nat} {ao : Option Addr} {xs ys : List (List Value)} [TSl P t e sz by_] (hx : opd fr x = some (.slice ao n n)) (hy : opd fr y = some (.slice (some ⟨b2, o2, none⟩) m c2))
    (hr : SR ro sz ao n n xs) (hs : hp.Perm (.own e sz (some ⟨b2, o2, none⟩) m c2 ys :: F)) (h0 : 0 < m) (hb1 : n + m ≤ maxLen) (hb2 : (n + m) * by_ ≤ 140737488355328) (hd : Nat.ble (d + 1) N = true)
    (h : ∀ ao' c', WO P N E ops rest ⟨(d, .slice ao' (n + m) c') :: fr, .own e sz ao' (n + m) c' (xs ++ ys) :: hp, ro⟩ Kn) : WO P N E ops (⟨some d, .call ⟨.builtin .append, #[x, y], #[t, t]⟩, ty, pos, af, none⟩ :: rest) ⟨fr, hp, ro⟩ Kn :=
  wo_eff (L := []) (.refl _) hd fun a w ok => by
    obtain ⟨ao', c', w', h1, h2, h3, h4⟩ := app_full_run (P := P) (t := t) (ty := ty) hr ok.s.rds (ok.s.get hs) h0 hb1 hb2
    exact ⟨_, [.own e sz ao' (n + m) c' (xs ++ ys)], w', exec_append (ok.h.eval hx) (ok.h.eval hy) h1, Sat.one h3 h2 (fun b hb => .inr (h4 b hb)), by simpa [putF] using h ao' c'⟩
end
end Go.Proofs.Ytlhlidmhlhodiaa

/-
  Sparse frames: maps with whole-number keys, known whole. No program in sight.
-/
namespace Go.Proofs.Ytlhlidmhlhodiaa
set_option linter.unusedSimpArgs false
set_option linter.unusedVariables false
open Go.RowKit

def mEnt (k : IntKind) : Nat → List (Int × Value) → List MapEntry
  | _, [] => []
  | n, (a, v) :: l => ⟨.int k a, v, n⟩ :: mEnt k (n + 1) l
abbrev mob (k : IntKind) (l : List (Int × Value)) : Obj := .map (mEnt k 0 l).toArray l.length
def alook : List (Int × Value) → Int → Option Value
  | [], _ => none
  | (a, v) :: l, x => if x = a then some v else alook l x
def aidx : List (Int × Value) → Int → Nat
  | [], _ => 0
  | (a, _) :: l, x => if x = a then 0 else aidx l x + 1
def aset : List (Int × Value) → Int → Value → List (Int × Value)
  | [], x, v => [(x, v)]
  | (a, u) :: l, x, v => if x = a then (a, v) :: l else (a, u) :: aset l x v
theorem mEnt_len (k : IntKind) : ∀ (l : List (Int × Value)) (n : Nat), (mEnt k n l).length = l.length
  | [], _ => rfl
  | _ :: l, n => by simp [mEnt, mEnt_len k l]
theorem alook_set (l : List (Int × Value)) (x : Int) (v : Value) (y : Int) : alook (aset l x v) y = if y = x then some v else alook l y := by
  induction l with
  | nil => simp [aset, alook]
  | cons p l ih =>
    obtain ⟨a, u⟩ := p
    unfold aset
    by_cases h : x = a
    · subst h; simp only [if_true, alook]
      by_cases h2 : y = x <;> simp [h2]
    · simp only [if_neg h, alook, ih]
      by_cases h2 : y = a
      · subst h2; simp [Ne.symm h]
      · simp [h2]
theorem aidx_lt {l : List (Int × Value)} {x : Int} {v : Value} (h : alook l x = some v) : aidx l x < l.length := by
  induction l with
  | nil => cases h
  | cons p l ih =>
    obtain ⟨a, u⟩ := p
    unfold alook at h
    unfold aidx
    by_cases h2 : x = a
    · simp [h2]
    · rw [if_neg h2] at h ⊢
      have := ih h
      simp; omega
theorem aidx_le (l : List (Int × Value)) (x : Int) : aidx l x ≤ l.length := by
  induction l with
  | nil => simp [aidx]
  | cons p l ih =>
    obtain ⟨a, u⟩ := p
    unfold aidx
    by_cases h2 : x = a
    · simp [h2]
    · rw [if_neg h2]; simp; omega
theorem aidx_none {l : List (Int × Value)} {x : Int} (h : alook l x = none) : aidx l x = l.length := by
  induction l with
  | nil => rfl
  | cons p l ih =>
    obtain ⟨a, u⟩ := p
    unfold alook at h
    unfold aidx
    by_cases h2 : x = a
    · rw [if_pos h2] at h; cases h
    · rw [if_neg h2] at h ⊢
      rw [ih h]; simp
theorem aset_none {l : List (Int × Value)} {x : Int} (v : Value) (h : alook l x = none) : aset l x v = l ++ [(x, v)] := by
  induction l with
  | nil => rfl
  | cons p l ih =>
    obtain ⟨a, u⟩ := p
    unfold alook at h
    unfold aset
    by_cases h2 : x = a
    · rw [if_pos h2] at h; cases h
    · rw [if_neg h2] at h ⊢
      rw [ih h]; rfl
theorem aset_same {l : List (Int × Value)} {x : Int} {v : Value} (h : alook l x = some v) : aset l x v = l := by
  induction l with
  | nil => cases h
  | cons p l ih =>
    obtain ⟨a, u⟩ := p
    unfold alook at h
    unfold aset
    by_cases h2 : x = a
    · rw [if_pos h2] at h ⊢; cases h; rfl
    · rw [if_neg h2] at h ⊢
      rw [ih h]
theorem aset_len_some {l : List (Int × Value)} {x : Int} {u : Value} (v : Value) (h : alook l x = some u) : (aset l x v).length = l.length := by
  induction l with
  | nil => cases h
  | cons p l ih =>
    obtain ⟨a, u⟩ := p
    unfold alook at h
    unfold aset
    by_cases h2 : x = a
    · rw [if_pos h2]; rfl
    · rw [if_neg h2] at h ⊢
      simp [ih h]
theorem aset_len_none {l : List (Int × Value)} {x : Int} (v : Value) (h : alook l x = none) : (aset l x v).length = l.length + 1 := by
  rw [aset_none v h]; simp
theorem aset_len_le (l : List (Int × Value)) (x : Int) (v : Value) : (aset l x v).length ≤ l.length + 1 := by
  cases h : alook l x with
  | none => rw [aset_len_none v h]; omega
  | some u => rw [aset_len_some v h]; omega
theorem aset_aset (l : List (Int × Value)) (x : Int) (u v : Value) : aset (aset l x u) x v = aset l x v := by
  induction l with
  | nil => simp [aset]
  | cons p l ih =>
    obtain ⟨a, z⟩ := p
    by_cases h2 : x = a
    · subst h2; simp [aset]
    · simp [aset, h2, ih]
theorem aidx_set (l : List (Int × Value)) (x : Int) (v : Value) : aidx (aset l x v) x = aidx l x := by
  induction l with
  | nil => simp [aset, aidx]
  | cons p l ih =>
    obtain ⟨a, z⟩ := p
    by_cases h2 : x = a
    · subst h2; simp [aset, aidx]
    · simp [aset, aidx, h2, ih]
theorem findNow_m (k : IntKind) (x : Int) : ∀ (l : List (Int × Value)) (n i : Nat), Instr.findNow (.int k) (.int k x) (mEnt k n l) i = some ((alook l x).map fun v => (i + aidx l x, v))
  | [], _, _ => rfl
  | (a, v) :: l, n, i => by
    have e : Instr.sameNow (.int k) (.int k x) (.int k a) = some (x == a) := by simp [Instr.sameNow]
    unfold mEnt Instr.findNow
    rw [e]
    by_cases h : x = a
    · subst h; simp [alook, aidx]
    · have hb : (x == a) = false := by simpa using h
      rw [hb]
      simp only [findNow_m k x l (n + 1) (i + 1), alook, aidx, if_neg h]
      cases alook l x <;> simp; omega
theorem mEnt_modify (k : IntKind) (x : Int) (v : Value) : ∀ (l : List (Int × Value)) (n : Nat) {u : Value}, alook l x = some u → (mEnt k n l).modify (aidx l x) (fun e => { e with key := .int k x, val := v }) = mEnt k n (aset l x v)
  | [], _, _, h => by cases h
  | (a, z) :: l, n, u, h => by
    unfold alook at h
    by_cases h2 : x = a
    · subst h2; simp [aset, aidx, mEnt]
    · rw [if_neg h2] at h
      simp only [aset, aidx, if_neg h2, mEnt, List.modify_succ_cons, mEnt_modify k x v l (n + 1) h]
theorem mEnt_modify' (k : IntKind) (x : Int) : ∀ (l : List (Int × Value)) (n : Nat) {u : Value}, alook l x = some u → (mEnt k n l).modify (aidx l x) (fun e => { e with key := .int k x }) = mEnt k n l
  | [], _, _, h => by cases h
  | (a, z) :: l, n, u, h => by
    unfold alook at h
    by_cases h2 : x = a
    · subst h2; simp [aidx, mEnt]
    · rw [if_neg h2] at h
      simp only [aidx, if_neg h2, mEnt, List.modify_succ_cons, mEnt_modify' k x l (n + 1) h]
theorem mEnt_modv (k : IntKind) (x : Int) (v : Value) : ∀ (l : List (Int × Value)) (n : Nat) {u : Value}, alook l x = some u → (mEnt k n l).modify (aidx l x) (fun e => { e with val := v }) = mEnt k n (aset l x v)
  | [], _, _, h => by cases h
  | (a, z) :: l, n, u, h => by
    unfold alook at h
    by_cases h2 : x = a
    · subst h2; simp [aset, aidx, mEnt]
    · rw [if_neg h2] at h
      simp only [aset, aidx, if_neg h2, mEnt, List.modify_succ_cons, mEnt_modv k x v l (n + 1) h]
theorem mEnt_at (k : IntKind) (x : Int) : ∀ (l : List (Int × Value)) (n : Nat) {u : Value}, alook l x = some u → (mEnt k n l)[aidx l x]? = some ⟨.int k x, u, n + aidx l x⟩
  | [], _, _, h => by cases h
  | (a, z) :: l, n, u, h => by
    unfold alook at h
    by_cases h2 : x = a
    · subst h2
      rw [if_pos rfl] at h; cases h
      simp [aidx, mEnt]
    · rw [if_neg h2] at h
      simp only [aidx, if_neg h2, mEnt, List.getElem?_cons_succ, mEnt_at k x l (n + 1) h]
      simp; omega
theorem mEnt_push (k : IntKind) (x : Int) (v : Value) : ∀ (l : List (Int × Value)) (n : Nat), mEnt k n l ++ [⟨.int k x, v, n + l.length⟩] = mEnt k n (l ++ [(x, v)])
  | [], _ => rfl
  | (a, z) :: l, n => by
    have := mEnt_push k x v l (n + 1)
    simp only [mEnt, List.cons_append, List.length_cons, List.cons.injEq, true_and]
    rw [← this]
    have e : n + (l.length + 1) = n + 1 + l.length := by omega
    rw [e]
theorem mEnt_find (k : IntKind) : ∀ (l : List (Int × Value)) (n j : Nat), j < l.length → (mEnt k n l).findIdx? (fun e => (e.born : Int) == ((n + j : Nat) : Int)) = some j
  | [], _, _, h => by simp at h
  | (a, z) :: l, n, 0, h => by simp [mEnt, List.findIdx?_cons]
  | (a, z) :: l, n, j + 1, h => by
    have h' := mEnt_find k l (n + 1) j (by simpa using h)
    have e : n + 1 + j = n + (j + 1) := by omega
    rw [e] at h'
    unfold mEnt
    rw [List.findIdx?_cons]
    have hb : (((n : Nat) : Int) == ((n + (j + 1) : Nat) : Int)) = false := by simp; omega
    simp only [hb]
    rw [h']; rfl
/-! contracts of the older kind turned into these -/
section
variable {P : Program} {f : FuncId} {args : Array Value} {g : Nat} {T : TypeId} {cs : Array Value}
theorem sat_none {w w' : World} (h : Below w.heap.size w w') : Sat w (feet []) (blks []) [] [] w' :=
  ⟨⟨h.os, h.tape, h.output, h.size, fun k hk _ => h.block k hk⟩, (by intro x hx; cases hx), (by intro x hx; cases hx), .nil, (by intro r hr; cases hr), (by intro r hr; cases hr), (by intro r hr; cases hr)⟩
theorem fn_pure {v : Value} (h : ∀ w, Calls P f args w fun e w' => e = .returned v ∧ Below w.heap.size w w') : Fn P f args [] [] (fun u L' R' => u = v ∧ L' = [] ∧ R' = []) :=
  fun w _ => (h w).mono fun _ _ ⟨h1, h2⟩ => ⟨v, [], [], h1, ⟨rfl, rfl, rfl⟩, sat_none h2⟩
theorem fn_blk {Q : Value → Array Value → Prop} (h : ∀ w, Blk w g T cs → Calls P f args w fun e w' => ∃ v cs', e = .returned v ∧ Q v cs' ∧ Blk w' g T cs' ∧ w.grownBy w' (some g)) :
    Fn P f args [.ob g (.cells cs T (0, 0))] [] (fun u L' R' => ∃ cs', Q u cs' ∧ L' = [.ob g (.cells cs' T (0, 0))] ∧ R' = []) :=
  fun w hw => (h w (hw.sat _ (.head _))).mono fun _ _ ⟨v, cs', h1, h2, h3, h4⟩ => ⟨v, _, [], h1, ⟨cs', h2, rfl, rfl⟩, Sat.relay (by simpa using Frm.grown h4) h3⟩
theorem fn_read {v : Value} (h : ∀ w, Blk w g T cs → Calls P f args w fun e w' => e = .returned v ∧ w = w') :
    Fn P f args [.ob g (.cells cs T (0, 0))] [] (fun u L' R' => u = v ∧ L' = [.ob g (.cells cs T (0, 0))] ∧ R' = []) :=
  fun w hw => (h w (hw.sat _ (.head _))).mono fun _ _ ⟨h1, h2⟩ => ⟨v, _, [], h1, ⟨rfl, rfl, rfl⟩, by subst h2; exact hw⟩
theorem fn_new {Q : Array Value → Prop} (h : ∀ w, Calls P f args w fun e w' => ∃ g cs, e = .returned (.pointer (some ⟨g, 0, none⟩)) ∧ Q cs ∧ Blk w' g T cs ∧ w.heap.size ≤ g ∧ Below w.heap.size w w') :
    Fn P f args [] [] (fun u L' R' => ∃ g cs, u = .pointer (some ⟨g, 0, none⟩) ∧ Q cs ∧ L' = [.ob g (.cells cs T (0, 0))] ∧ R' = []) :=
  fun w _ => (h w).mono fun _ w' ⟨g, cs, h1, h2, h3, h4, h5⟩ => ⟨_, _, [], h1, ⟨g, cs, rfl, h2, rfl, rfl⟩, Sat.one (L := []) ⟨h5.os, h5.tape, h5.output, h5.size, fun k hk _ => h5.block k hk⟩ h3 (fun b hb => by
    simp only [It.foot, Option.some.injEq] at hb; subst hb; exact .inr h4)⟩
end
section
variable {P : Program} {N : Nat} {E : Env} {fr : List (Nat × Value)} {hp : List It} {ro : List Ro} {Kn Kr : St → Prop} {ops : Array Oper} {rest : List Oper} {dst : Option Tmp} {ty t : TypeId} {pos : String} {af : Array Edge} {F : List It} {x y z : Operand} {k : IntKind} {b : Nat} {l : List (Int × Value)} {a : Int} {v : Value} {kt e : TypeId}
theorem pv_mlook {zv : Value} [ht : TMap P t kt e] [hk : TInt P kt k] [hz : TZV P e zv] (hx : opd fr x = some (.map (some b))) (hy : opd fr y = some (.int k a)) (hs : hp.Perm (.ob b (mob k l) :: F)) :
    Pv P ⟨fr, hp, ro⟩ (.lookup t x y true) (.tuple #[(alook l a).getD zv, .bool (alook l a).isSome]) := fun N E ac w dst ty pos af g ok => by
  have hb : w.heap[b]? = some (mob k l) := ok.s.get hs
  simp only [execOp, ok.h.eval hx, ok.h.eval hy]
  have h1 := findNow_m k a l 0 0
  have hf := MapKept.run_findKey (P := P) (w := w) hk.h h1
  have hc : ∀ em, (Instr.checkKey em 10000 kt (.int k a)).run P w = .ok () w := fun em => MapKept.run_checkKey hk.h (by simp [MapKept.IsKey]) em 9999
  cases h : alook l a with
  | none => rw [h] at hf; simp [Instr.lookup, run_underlying ht.h, MapKept.run_getObj_map hb, hc, hf, Result.andThen, run_zeroV (P := P) (T := e)]
  | some u => rw [h] at hf; simp [Instr.lookup, run_underlying ht.h, MapKept.run_getObj_map hb, hc, hf, Result.andThen]
theorem pv_mlook1 {zv : Value} [ht : TMap P t kt e] [hk : TInt P kt k] [hz : TZV P e zv] (hx : opd fr x = some (.map (some b))) (hy : opd fr y = some (.int k a)) (hs : hp.Perm (.ob b (mob k l) :: F)) :
    Pv P ⟨fr, hp, ro⟩ (.lookup t x y false) ((alook l a).getD zv) := fun N E ac w dst ty pos af g ok => by
  have hb : w.heap[b]? = some (mob k l) := ok.s.get hs
  simp only [execOp, ok.h.eval hx, ok.h.eval hy]
  have h1 := findNow_m k a l 0 0
  have hf := MapKept.run_findKey (P := P) (w := w) hk.h h1
  have hc : ∀ em, (Instr.checkKey em 10000 kt (.int k a)).run P w = .ok () w := fun em => MapKept.run_checkKey hk.h (by simp [MapKept.IsKey]) em 9999
  cases h : alook l a with
  | none => rw [h] at hf; simp [Instr.lookup, run_underlying ht.h, MapKept.run_getObj_map hb, hc, hf, Result.andThen, run_zeroV (P := P) (T := e)]
  | some u => rw [h] at hf; simp [Instr.lookup, run_underlying ht.h, MapKept.run_getObj_map hb, hc, hf, Result.andThen]
theorem pv_min3 {k : IntKind} {a b c : Int} {ats : Array TypeId} (hx : opd fr x = some (.int k a)) (hy : opd fr y = some (.int k b)) (hz : opd fr z = some (.int k c)) : Pv P ⟨fr, hp, ro⟩ (.call ⟨.builtin .min, #[x, y, z], ats⟩) (.int k (min (min a b) c)) := fun N E ac w dst ty pos af g ok => by
  have e : (if b < a then b else a) = min a b := by omega
  have e2 : (if c < min a b then c else min a b) = min (min a b) c := by omega
  simp only [execOp, resolve, List.map_toArray, List.map_cons, List.map_nil, ok.h.eval hx, ok.h.eval hy, ok.h.eval hz]; simp [invoke, builtin, Builtin.min_, Builtin.min2, e, e2, go_sem]
/-! rows of strings that came in -/
def sseg (S : Nat → ByteArray) (n : Nat) : List (List Value) := (List.range n).map fun i => [.string (S i)]
theorem sseg_at {S : Nat → ByteArray} {n i : Nat} (h : i < n) : (sseg S n)[i]? = some [.string (S i)] := by simp [sseg, h]
theorem rws_s {w : World} {A : Option Addr} {n c : Nat} {V : Nat → Nat → Value} (h : Rws [.string] w A n c V) :
    ∃ (S : Nat → ByteArray) (R : List Ro), (∀ r ∈ R, r.sat w) ∧ (∀ i, i < n → (S i).size ≤ maxLen) ∧ (0 < n → ∃ b o, A = some ⟨b, o, none⟩ ∧ ⟨b, o, 1, sseg S n⟩ ∈ R) ∧ n ≤ 9223372036854775807 := by
  obtain ⟨R, hR, h0⟩ := rws_ro h (by simp)
  obtain ⟨h1, h2, _, h4⟩ := h
  refine ⟨fun i => match V i 0 with | .string z => z | _ => ByteArray.empty, R, hR, fun i hi => ?_, fun hn => ?_, by unfold maxLen at h2; omega⟩
  · obtain ⟨z, hz, hw⟩ := h4 i 0 _ hi rfl
    simp only [hz]
    exact hw
  · obtain ⟨b, o, hA, hm⟩ := h0 hn
    refine ⟨b, o, hA, ?_⟩
    have e : rowsOf [.string] V n = sseg (fun i => match V i 0 with | .string z => z | _ => ByteArray.empty) n := by
      unfold rowsOf sseg
      refine List.map_congr_left fun i hi => ?_
      obtain ⟨z, hz, _⟩ := h4 i 0 _ (List.mem_range.1 hi) rfl
      simp [hz]
    rw [← e]; exact hm
theorem g_lk {c : Bool} (h : Pv P ⟨fr, hp, ro⟩ (.lookup t x y c) v) : Pv P ⟨fr, hp, ro⟩ (.lookup t x y c) v := h
theorem pv_mlk_s [ht : TMap P t kt e] [hk : TInt P kt k] {zv : Value} [hz : TZV P e zv] (hx : opd fr x = some (.map (some b))) (hy : opd fr y = some (.int k a)) (hs : hp.Perm (.ob b (mob k l) :: F)) (hl : alook l a = some v) : Pv P ⟨fr, hp, ro⟩ (.lookup t x y false) v := by
  have := pv_mlook1 (P := P) (ro := ro) hx hy hs (t := t); rwa [hl] at this
theorem pv_mlk_n [ht : TMap P t kt e] [hk : TInt P kt k] {zv : Value} [hz : TZV P e zv] (hx : opd fr x = some (.map (some b))) (hy : opd fr y = some (.int k a)) (hs : hp.Perm (.ob b (mob k l) :: F)) (hl : alook l a = none) : Pv P ⟨fr, hp, ro⟩ (.lookup t x y false) zv := by
  have := pv_mlook1 (P := P) (ro := ro) hx hy hs (t := t); rwa [hl] at this
theorem pv_mlko_s [ht : TMap P t kt e] [hk : TInt P kt k] {zv : Value} [hz : TZV P e zv] (hx : opd fr x = some (.map (some b))) (hy : opd fr y = some (.int k a)) (hs : hp.Perm (.ob b (mob k l) :: F)) (hl : alook l a = some v) : Pv P ⟨fr, hp, ro⟩ (.lookup t x y true) (.tuple #[v, .bool true]) := by
  have := pv_mlook (P := P) (ro := ro) hx hy hs (t := t); rwa [hl] at this
theorem pv_mlko_n [ht : TMap P t kt e] [hk : TInt P kt k] {zv : Value} [hz : TZV P e zv] (hx : opd fr x = some (.map (some b))) (hy : opd fr y = some (.int k a)) (hs : hp.Perm (.ob b (mob k l) :: F)) (hl : alook l a = none) : Pv P ⟨fr, hp, ro⟩ (.lookup t x y true) (.tuple #[zv, .bool false]) := by
  have := pv_mlook (P := P) (ro := ro) hx hy hs (t := t); rwa [hl] at this
theorem pv_mlen [ht : TMap P t kt e] (hx : opd fr x = some (.map (some b))) (hs : hp.Perm (.ob b (mob k l) :: F)) : Pv P ⟨fr, hp, ro⟩ (.call ⟨.builtin .len, #[x], #[t]⟩) (.int .i64 l.length) := fun N E ac w dst ty pos af g ok => by
  have hb : w.heap[b]? = some (mob k l) := ok.s.get hs
  simp only [execOp, resolve, List.map_toArray, List.map_cons, List.map_nil, ok.h.eval hx]; simp [invoke, builtin, Builtin.len_, run_underlying ht.h, MapKept.run_getObj_map hb, Result.andThen, goInt, mEnt_len, go_sem]
theorem wo_mmake {d : Nat} (k : IntKind) (hd : Nat.ble (d + 1) N = true)
    (h : ∀ b, WO P N E ops rest ⟨(d, .map (some b)) :: fr, .ob b (mob k []) :: hp, ro⟩ Kn) : WO P N E ops (⟨some d, .makeMap t none, ty, pos, af, none⟩ :: rest) ⟨fr, hp, ro⟩ Kn :=
  wo_eff (L := []) (.refl _) hd fun a w ok => ⟨.map (some w.heap.size), _, w.alloc (.map #[] 0), by simp only [execOp, Option.map_none, Sem.run_bind, run_makeMap, Result.andThen_ok]; rfl, Sat.fresh _, h _⟩
theorem set_frm {w : World} {b : Nat} {o o' : Obj} (hb : w.heap[b]? = some o) : Frm [b] w { w with heap := w.heap.setIfInBounds b o' } ∧ ({ w with heap := w.heap.setIfInBounds b o' } : World).heap[b]? = some o' :=
  ⟨⟨rfl, rfl, rfl, by simp, fun k _ hn => (MapKept.heap_set hb).2 k (by simpa using hn)⟩, (MapKept.heap_set hb).1⟩
theorem run_mput {w : World} [ht : TMap P t kt e] [hk : TInt P kt k] (hb : w.heap[b]? = some (mob k l)) :
    (Instr.mapUpdate t (.map (some b)) (.int k a) v).run P w = .ok () { w with heap := w.heap.setIfInBounds b (mob k (aset l a v)) } := by
  have h1 := findNow_m k a l 0 0
  have hf := MapKept.run_findKey (P := P) (w := w) hk.h h1
  have hc : (Instr.checkKey false 10000 kt (.int k a)).run P w = .ok () w := MapKept.run_checkKey hk.h (by simp [MapKept.IsKey]) false 9999
  cases h : alook l a with
  | none =>
    rw [h] at hf
    have e1 := mEnt_push k a v l 0
    rw [Nat.zero_add] at e1
    simp [Instr.mapUpdate, run_underlying ht.h, MapKept.run_getObj_map hb, hc, hf, MapKept.run_setObj_map _ hb, Result.andThen, mob, aset_none v h, e1]
  | some u =>
    rw [h] at hf
    have e1 := mEnt_modify k a v l 0 h
    have e2 := mEnt_at k a l 0 h
    have hks : (Instr.keyThatStays (.int k a) (.int k a)).run P w = .ok (.int k a) w := MapKept.run_keyThatStays (d := .int k) (by simp [MapKept.IsKey])
    simp [Instr.mapUpdate, run_underlying ht.h, MapKept.run_getObj_map hb, hc, hf, MapKept.run_setObj_map _ hb, Result.andThen, mob, aset_len_some v h, e1, e2, hks]
theorem wo_mput [ht : TMap P t kt e] [hk : TInt P kt k] (hx : opd fr x = some (.map (some b))) (hy : opd fr y = some (.int k a)) (hz : opd fr z = some v) (hs : hp.Perm (.ob b (mob k l) :: F)) (hd : dstOk dst N = true)
    (h : WO P N E ops rest ⟨putF dst undef fr, .ob b (mob k (aset l a v)) :: F, ro⟩ Kn) : WO P N E ops (⟨dst, .mapUpdate t x y z, ty, pos, af, none⟩ :: rest) ⟨fr, hp, ro⟩ Kn :=
  wo_eff_skip (L := [_]) hs hd fun ac w ok => by
    have hb : w.heap[b]? = some (mob k l) := ok.s.get hs
    refine ⟨_, _, ?_, Sat.relay (set_frm hb).1 (set_frm (o' := mob k (aset l a v)) hb).2, by simpa using h⟩
    simp only [execOp, ok.h.eval hx, ok.h.eval hy, ok.h.eval hz, Sem.run_bind, run_mput hb]; rfl
theorem wo_mentry {d : Nat} {zv : Value} [ht : TMap P t kt e] [hk : TInt P kt k] [hzv : TZV P e zv] (hx : opd fr x = some (.map (some b))) (hy : opd fr y = some (.int k a)) (hs : hp.Perm (.ob b (mob k l) :: F)) (hd : Nat.ble (d + 1) N = true)
    (h : WO P N E ops rest ⟨(d, .tuple #[(alook l a).getD zv, .int .i64 (aidx l a)]) :: fr, .ob b (mob k (aset l a ((alook l a).getD zv))) :: F, ro⟩ Kn) : WO P N E ops (⟨some d, .mapEntry t x y, ty, pos, af, none⟩ :: rest) ⟨fr, hp, ro⟩ Kn :=
  wo_eff (L := [_]) hs hd fun ac w ok => by
    have hb : w.heap[b]? = some (mob k l) := ok.s.get hs
    refine ⟨_, _, _, ?_, Sat.relay (set_frm hb).1 (set_frm (o' := mob k (aset l a ((alook l a).getD zv))) hb).2, by simpa [putF] using h⟩
    have h1 := findNow_m k a l 0 0
    have hf := MapKept.run_findKey (P := P) (w := w) hk.h h1
    have hc : (Instr.checkKey false 10000 kt (.int k a)).run P w = .ok () w := MapKept.run_checkKey hk.h (by simp [MapKept.IsKey]) false 9999
    simp only [execOp, ok.h.eval hx, ok.h.eval hy]
    cases h : alook l a with
    | none =>
      rw [h] at hf
      have e1 := mEnt_push k a zv l 0
      rw [Nat.zero_add] at e1
      simp [Instr.mapEntry, run_underlying ht.h, MapKept.run_getObj_map hb, hc, hf, MapKept.run_setObj_map _ hb, Result.andThen, mob, aset_none _ h, e1, run_zeroV (P := P) (T := e), goInt, aidx_none h]
    | some u =>
      rw [h] at hf
      have e1 := mEnt_modify' k a l 0 h
      have e2 := mEnt_at k a l 0 h
      have hks : (Instr.keyThatStays (.int k a) (.int k a)).run P w = .ok (.int k a) w := MapKept.run_keyThatStays (d := .int k) (by simp [MapKept.IsKey])
      simp [Instr.mapEntry, run_underlying ht.h, MapKept.run_getObj_map hb, hc, hf, MapKept.run_setObj_map _ hb, Result.andThen, mob, aset_same h, e1, e2, hks, goInt]
theorem wo_mstore {j : Nat} [ht : TMap P t kt e] (hx : opd fr x = some (.map (some b))) (hy : opd fr y = some (.int .i64 j)) (hz : opd fr z = some v) (hs : hp.Perm (.ob b (mob k l) :: F)) {u : Value} (hl : alook l a = some u) (hj : aidx l a = j) (hd : dstOk dst N = true)
    (h : WO P N E ops rest ⟨putF dst undef fr, .ob b (mob k (aset l a v)) :: F, ro⟩ Kn) : WO P N E ops (⟨dst, .entryStore t x y z, ty, pos, af, none⟩ :: rest) ⟨fr, hp, ro⟩ Kn :=
  wo_eff_skip (L := [_]) hs hd fun ac w ok => by
    have hb : w.heap[b]? = some (mob k l) := ok.s.get hs
    refine ⟨_, _, ?_, Sat.relay (set_frm hb).1 (set_frm (o' := mob k (aset l a v)) hb).2, by simpa using h⟩
    have e1 := mEnt_modv k a v l 0 hl
    have e2 := mEnt_find k l 0 (aidx l a) (aidx_lt hl)
    rw [Nat.zero_add] at e2
    subst hj
    simp only [execOp, ok.h.eval hx, ok.h.eval hy, ok.h.eval hz, Sem.run_bind]
    simp [Instr.entryStore, MapKept.run_getObj_map hb, MapKept.run_setObj_map _ hb, Result.andThen, asInt, asIntOf, e2, mob, e1, aset_len_some v hl, go_sem]
end
end Go.Proofs.Ytlhlidmhlhodiaa

/-
  Iterators: maps.Keys and slices.Collect as contracts over sparse frames.
-/
namespace Go.Proofs.Ytlhlidmhlhodiaa
set_option linter.unusedSimpArgs false
set_option linter.unusedVariables false
open Go.RowKit Go.Maps Go.Sort Go.Shelf

def kInt : Value → Int
  | .int _ a => a
  | _ => 0
/-- a map with int keys -/
structure MOk (es : Array MapEntry) (ck : Nat) : Prop where
  st : MapKept.Stamped es ck
  size : es.size ≤ 1000
  key : ∀ x ∈ es.toList, ∃ a : Int, x.key = .int .i64 a ∧ (Lit.int .i64 a).wf = true
def mKeys (es : Array MapEntry) : List Int := es.toList.map fun x => kInt x.key
abbrev freeR : Value → Option (DataW Unit × List MemPlace) := fun _ => some (.nil, [])
theorem MOk.rd {P : Program} {k : TypeId} (hk : P.underlying k = some (.int .i64)) {es : Array MapEntry} {ck : Nat} (h : MOk es ck) {x : MapEntry} (hx : x ∈ es.toList) : WideElems.rd P k freeR x = some (.int .i64 (kInt x.key), .nil) := by
  obtain ⟨a, ha, hw⟩ := h.key x hx
  unfold WideElems.rd
  rw [ha, keyOf_int_mk hk hw]
  rfl
theorem MOk.own {P : Program} {k : TypeId} (hk : P.underlying k = some (.int .i64)) {es : Array MapEntry} {ck : Nat} (h : MOk es ck) {w : World} {b : Nat} (hb : w.heap[b]? = some (.map es ck)) :
    w.ownsMap P k freeR b es.size (.map ((es.toList.map (WideElems.rg P k freeR)).foldr DataW.insert [])) :=
  ⟨es, ck, hb, ⟨by have := h.size; unfold maxLen; omega, h.st, fun x hx => ⟨_, h.rd hk hx⟩⟩, Nat.le_refl _, rfl⟩
theorem MOk.keys {P : Program} {k : TypeId} (hk : P.underlying k = some (.int .i64)) {es : Array MapEntry} {ck : Nat} (h : MOk es ck) : (intKeys (H := Unit) (.map ((es.toList.map (WideElems.rg P k freeR)).foldr DataW.insert []))).Perm (mKeys es) := by
  have h1 := (WideShapes.sorted_perm (es.toList.map (WideElems.rg P k freeR))).map (fun p => intOf p.1)
  refine h1.trans ?_
  rw [List.map_map]
  have : es.toList.map ((fun p : Lit × DataW Unit => intOf p.1) ∘ WideElems.rg P k freeR) = mKeys es := List.map_congr_left fun x hx => by
    show intOf (WideElems.rg P k freeR x).1 = kInt x.key
    unfold WideElems.rg
    rw [h.rd hk hx]; rfl
  rw [this]
theorem row_own {w' : World} {base : Nat} {T : TypeId} {v : Value} {ss : List Int} (h : w'.ownsRow base T 1 v ss.length (ss.map encZ)) : ∃ ao c, v = .slice ao ss.length c ∧ OwnSat w' T 1 ao ss.length c (ss.map fun x => [.int .i64 x]) ∧ ∀ a, ao = some a → base ≤ a.block := by
  have hrow : RowsOk 1 (ss.map fun x => [Value.int .i64 x]) := fun r hr => by
    obtain ⟨x, _, rfl⟩ := List.mem_map.1 hr
    exact ⟨rfl, fun u hu => by rw [List.mem_singleton.1 hu]; rfl⟩
  have hfl : (ss.map fun x => [Value.int .i64 x]).flatten = ss.map encZ := by
    clear h hrow
    induction ss with
    | nil => rfl
    | cons x l ih =>
      show Value.int .i64 x :: (l.map fun x => [Value.int .i64 x]).flatten = _
      rw [ih]; rfl
  rcases h.2 with ⟨rfl, h0⟩ | ⟨g, cap, cur, rfl, h1, h2, h3, h4, h5, h6⟩
  · rw [h0]
    refine ⟨none, 0, rfl, ⟨by simp [h0], hrow, Nat.le_refl _, Nat.zero_le _, fun _ => rfl, fun a ha => by cases ha⟩, fun a ha => by cases ha⟩
  · refine ⟨some ⟨g, 0, none⟩, cap, rfl, ⟨by simp, hrow, h3, h4, (fun h => by cases h), fun a ha => ?_⟩, fun a ha => ?_⟩
    · cases ha
      refine ⟨rfl, cur, h2, by simp only; omega, fun j u hj => ?_⟩
      rw [hfl, ← h6] at hj
      rw [List.getElem?_take] at hj
      split at hj
      · simpa using hj
      · cases hj
    · cases ha; exact h1
theorem fn_row {P : Program} {f : FuncId} {args : Array Value} {L : List It} {T : TypeId} {S : List Int → Prop}
    (h : ∀ w, (∀ x ∈ L, x.sat w) → Calls P f args w fun e w' => ∃ (v : Value) (ss : List Int), e = .returned v ∧ S ss ∧ w'.ownsRow w.heap.size T 1 v ss.length (ss.map encZ) ∧ Below w.heap.size w w') :
    Fn P f args L [] (fun v L' R' => ∃ ao ss c, v = .slice ao (ss : List Int).length c ∧ S ss ∧ L' = .own T 1 ao ss.length c (ss.map fun x => [.int .i64 x]) :: L ∧ R' = []) := fun w hw =>
  (h w hw.sat).mono fun e w' ⟨v, ss, he, hS, hrow, hb⟩ => by
    obtain ⟨ao, c, rfl, h1, h2⟩ := row_own hrow
    refine ⟨_, _, [], he, ⟨ao, ss, c, rfl, hS, rfl, rfl⟩, ?_⟩
    exact (hw.step (w' := w') (F := L) (L := []) (T' := []) (.refl _) (by simp) (Sat.one (y := .own T 1 ao ss.length c (ss.map fun x => [.int .i64 x])) ⟨hb.os, hb.tape, hb.output, hb.size, fun k hk _ => hb.block k hk⟩ h1 (fun b hbb => by
      cases ao with
      | none => cases hbb
      | some a => obtain rfl := Option.some.inj hbb; exact .inr (h2 a rfl)))).some_ro (fun r hr => by simp at hr)
theorem fn_keys {P : Program} {f g : FuncId} {mt : TypeId} (mb : Option Nat)
    (h : ∀ w, Calls P f #[.map mb] w fun e w' => e = .returned (.func (.func g) #[] #[.pointer (some ⟨w.heap.size, 0, none⟩)]) ∧ w' = w.alloc (.cells #[.map mb] mt)) :
    Fn P f #[.map mb] [] [] (fun v L' R' => ∃ bx, v = .func (.func g) #[] #[.pointer (some ⟨bx, 0, none⟩)] ∧ L' = [.ob bx (.cells #[.map mb] mt (0, 0))] ∧ R' = []) := fun w hw =>
  (h w).mono fun e w' ⟨he, hw'⟩ => by
    subst hw'
    refine ⟨_, _, [], he, ⟨w.heap.size, rfl, rfl, rfl⟩, ?_⟩
    exact (hw.step (w' := w.alloc (.cells #[.map mb] mt)) (F := []) (L := []) (R' := []) (T' := []) (.refl _) (by simp) (Sat.one (y := .ob w.heap.size (.cells #[.map mb] mt (0, 0))) ⟨rfl, rfl, rfl, by simp, fun k hk _ => Below.heap_alloc w _ k hk⟩ (heap_alloc_new w _) (fun b hbb => by
      obtain rfl := Option.some.inj hbb; exact .inr (Nat.le_refl _)))).some_ro (fun r hr => by simp at hr)
theorem itKeysA (mb : Option Nat) : Fn Try.prog 164 #[.map mb] [] [] (fun v L' R' => ∃ bx, v = .func (.func 177) #[] #[.pointer (some ⟨bx, 0, none⟩)] ∧ L' = [.ob bx (.cells #[.map mb] 238 (0, 0))] ∧ R' = []) :=
  fn_keys mb fun w => (callsIn_wide (n := 6)).1 (AnyZI.keys_in itA Fence.wide 6 trivial rfl mb w)
theorem itKeysC (mb : Option Nat) : Fn Try.prog 168 #[.map mb] [] [] (fun v L' R' => ∃ bx, v = .func (.func 178) #[] #[.pointer (some ⟨bx, 0, none⟩)] ∧ L' = [.ob bx (.cells #[.map mb] 97 (0, 0))] ∧ R' = []) :=
  fn_keys mb fun w => (callsIn_wide (n := 6)).1 (AnyZI.keys_in itC Fence.wide 6 trivial rfl mb w)
theorem itKeysD (mb : Option Nat) : Fn Try.prog 161 #[.map mb] [] [] (fun v L' R' => ∃ bx, v = .func (.func 174) #[] #[.pointer (some ⟨bx, 0, none⟩)] ∧ L' = [.ob bx (.cells #[.map mb] 279 (0, 0))] ∧ R' = []) :=
  fn_keys mb fun w => (callsIn_wide (n := 6)).1 (AnyZI.keys_in itD Fence.wide 6 trivial rfl mb w)
theorem itCol {f g kt mt : Nat} (hk : Try.prog.underlying kt = some (.int .i64)) (bx b : Nat) (es : Array MapEntry) (ck : Nat) (hm : MOk es ck)
    (hg : ∀ w : World, bx < w.heap.size → w.cell? ⟨bx, 0, none⟩ = some (.map (some b)) → ∀ {nn : Nat} {D0 : DataW Unit}, w.ownsMap Try.prog kt freeR b nn D0 → SeqGives Fence.wide 6 Try.prog g #[.pointer (some ⟨bx, 0, none⟩)] encZ (fun ss => ss.Perm (intKeys D0)) (Maps.size D0) w)
    (hc : ∀ (S : List Int → Prop) (N : Nat), N ≤ maxLen → N * 8 ≤ 140737488355328 → ∀ w : World, SeqGives Fence.wide 6 Try.prog g #[.pointer (some ⟨bx, 0, none⟩)] encZ S N w →
      CallsIn Fence.wide 8 Try.prog f #[.func (.func g) #[] #[.pointer (some ⟨bx, 0, none⟩)]] w fun e w' => ∃ (v : Value) (ss : List Int), e = .returned v ∧ S ss ∧ w'.ownsRow w.heap.size kt 1 v ss.length (ss.map encZ) ∧ (v = .slice none 0 0 ↔ ss = []) ∧ RowKit.Below w.heap.size w w') :
    Fn Try.prog f #[.func (.func g) #[] #[.pointer (some ⟨bx, 0, none⟩)]] [.ob bx (.cells #[.map (some b)] mt (0, 0)), .ob b (.map es ck)] []
      (fun v L' R' => ∃ ao ss c, v = .slice ao (ss : List Int).length c ∧ ss.Perm (mKeys es) ∧ L' = .own kt 1 ao ss.length c (ss.map fun x => [.int .i64 x]) :: [.ob bx (.cells #[.map (some b)] mt (0, 0)), .ob b (.map es ck)] ∧ R' = []) :=
  fn_row (S := fun ss => ss.Perm (mKeys es)) fun w hw => by
    have h1 : w.heap[bx]? = some (.cells #[.map (some b)] mt (0, 0)) := hw _ (.head _)
    have h2 : w.heap[b]? = some (.map es ck) := hw _ (.tail _ (.head _))
    have hlt : bx < w.heap.size := (Array.getElem?_eq_some_iff.1 h1).1
    have hsz : Maps.size (.map ((es.toList.map (WideElems.rg Try.prog kt freeR)).foldr DataW.insert [])) = es.size := by
      show (List.foldr DataW.insert [] _).length = _
      rw [length_sorted]; simp
    have hs := hg w hlt (by simp [World.cell?, h1]) (hm.own hk h2)
    refine ((callsIn_wide (n := 8)).1 (hc _ _ (by rw [hsz]; have := hm.size; unfold maxLen; omega) (by rw [hsz]; have := hm.size; omega) w hs)).mono fun e w' ⟨v, ss, he, hS, hrow, _, hb⟩ => ⟨v, ss, he, hS.trans (hm.keys hk), hrow, hb⟩
theorem itColA (bx b : Nat) (es : Array MapEntry) (ck : Nat) (hm : MOk es ck) :
    Fn Try.prog 175 #[.func (.func 177) #[] #[.pointer (some ⟨bx, 0, none⟩)]] [.ob bx (.cells #[.map (some b)] 238 (0, 0)), .ob b (.map es ck)] []
      (fun v L' R' => ∃ ao ss c, v = .slice ao (ss : List Int).length c ∧ ss.Perm (mKeys es) ∧ L' = .own 3 1 ao ss.length c (ss.map fun x => [.int .i64 x]) :: [.ob bx (.cells #[.map (some b)] 238 (0, 0)), .ob b (.map es ck)] ∧ R' = []) :=
  itCol (kt := 3) Try.underlying3 bx b es ck hm (fun w h1 h2 {nn D0} h3 => AnyZI.keys_gives (ρ := itA_ren) { itA with } Fence.wide 6 trivial rfl (by omega) bx b nn D0 w h1 h2 h3)
    (fun S N h1 h2 w hs => AnyZI.collect_in itB Fence.wide 8 trivial trivial rfl (by omega) _ _ trivial (enters_of Try.func177 (by kernel_rfl) rfl) S N h1 h2 w hs)
theorem itColC (bx b : Nat) (es : Array MapEntry) (ck : Nat) (hm : MOk es ck) :
    Fn Try.prog 175 #[.func (.func 178) #[] #[.pointer (some ⟨bx, 0, none⟩)]] [.ob bx (.cells #[.map (some b)] 97 (0, 0)), .ob b (.map es ck)] []
      (fun v L' R' => ∃ ao ss c, v = .slice ao (ss : List Int).length c ∧ ss.Perm (mKeys es) ∧ L' = .own 3 1 ao ss.length c (ss.map fun x => [.int .i64 x]) :: [.ob bx (.cells #[.map (some b)] 97 (0, 0)), .ob b (.map es ck)] ∧ R' = []) :=
  itCol (kt := 3) Try.underlying3 bx b es ck hm (fun w h1 h2 {nn D0} h3 => AnyZI.keys_gives (ρ := itC_ren) { itC with } Fence.wide 6 trivial rfl (by omega) bx b nn D0 w h1 h2 h3)
    (fun S N h1 h2 w hs => AnyZI.collect_in itB Fence.wide 8 trivial trivial rfl (by omega) _ _ trivial (enters_of Try.func178 (by kernel_rfl) rfl) S N h1 h2 w hs)
theorem itColD (bx b : Nat) (es : Array MapEntry) (ck : Nat) (hm : MOk es ck) :
    Fn Try.prog 160 #[.func (.func 174) #[] #[.pointer (some ⟨bx, 0, none⟩)]] [.ob bx (.cells #[.map (some b)] 279 (0, 0)), .ob b (.map es ck)] []
      (fun v L' R' => ∃ ao ss c, v = .slice ao (ss : List Int).length c ∧ ss.Perm (mKeys es) ∧ L' = .own 2 1 ao ss.length c (ss.map fun x => [.int .i64 x]) :: [.ob bx (.cells #[.map (some b)] 279 (0, 0)), .ob b (.map es ck)] ∧ R' = []) :=
  itCol (kt := 2) Try.underlying2 bx b es ck hm (fun w h1 h2 {nn D0} h3 => AnyZI.keys_gives (ρ := itD_ren) { itD with } Fence.wide 6 trivial rfl (by omega) bx b nn D0 w h1 h2 h3)
    (fun S N h1 h2 w hs => AnyZI.collect_in itE Fence.wide 8 trivial trivial rfl (by omega) _ _ trivial (enters_of Try.func174 (by kernel_rfl) rfl) S N h1 h2 w hs)
end Go.Proofs.Ytlhlidmhlhodiaa
