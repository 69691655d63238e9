/-
  Sparse frames: slices (read, stored into, appended to, cut, made). No program in sight.
-/
import Derived.Test.YtlhlidmhlhodiaaSpE
namespace Go.Proofs.Ytlhlidmhlhodiaa
set_option linter.unusedSimpArgs false
set_option linter.unusedVariables false
open Go.RowKit

theorem flat_inv {sz : Nat} : ∀ {xs : List (List Value)} {m : Nat} {u : Value}, (∀ r ∈ xs, r.length = sz) → xs.flatten[m]? = some u → ∃ i j row, m = i * sz + j ∧ xs[i]? = some row ∧ row[j]? = some u
  | [], _, _, _, h => by simp at h
  | x :: xs, m, u, hl, h => by
    have hx := hl x (.head _)
    rcases Nat.lt_or_ge m x.length with hlt | hge
    · rw [List.flatten_cons, List.getElem?_append_left hlt] at h
      exact ⟨0, m, x, by simp, rfl, h⟩
    · rw [List.flatten_cons, List.getElem?_append_right hge] at h
      obtain ⟨i, j, row, h1, h2, h3⟩ := flat_inv (fun r hr => hl r (.tail _ hr)) h
      exact ⟨i + 1, j, row, by rw [Nat.add_mul]; omega, by simpa using h2, h3⟩
def SegR (cur : Array Value) (o sz : Nat) (xs : List (List Value)) : Prop := ∀ i row, xs[i]? = some row → ∀ j u, row[j]? = some u → cur[o + (i * sz + j)]? = some u
theorem seg_iff {cur : Array Value} {o sz : Nat} {xs : List (List Value)} (hl : ∀ r ∈ xs, r.length = sz) : SegIn cur o xs ↔ SegR cur o sz xs := by
  constructor
  · intro h i row hi j u hj
    exact h _ _ (flat_at hl hi hj)
  · intro h m u hm
    obtain ⟨i, j, row, rfl, h2, h3⟩ := flat_inv hl hm
    exact h i row h2 j u h3
theorem lay_get {l r : List Value} {o j : Nat} (ho : o + r.length ≤ l.length) : (l.take o ++ r ++ l.drop (o + r.length))[j]? = if j < o then l[j]? else if j < o + r.length then r[j - o]? else l[j]? := by
  have h1 : (l.take o).length = o := by simp; omega
  split
  · rename_i h
    rw [List.append_assoc, List.getElem?_append_left (by omega), List.getElem?_take, if_pos h]
  · rename_i h
    split
    · rename_i h2
      rw [List.getElem?_append_left (by simp; omega), List.getElem?_append_right (by omega), h1]
    · rename_i h2
      rw [List.getElem?_append_right (by simp; omega)]
      simp only [List.length_append, h1, List.getElem?_drop]
      congr 1; omega

theorem cells_stored {w w' : World} {t : TypeId} {sz o n c b : Nat} {xs : List (List Value)} {cur : Array Value} {i j : Nat} {row row' r : List Value} (hS : OwnSat w t sz (some ⟨b, o, none⟩) n c xs) (hcur : w.heap[b]? = some (.cells cur t (0, 0)))
    (hi : xs[i]? = some row) (hl : LayAt row j r row') (h1 : ∀ v ∈ r, v.oneCell' = true)
    (h' : w'.heap[b]? = some (.cells (cur.toList.take (elt o i sz + j) ++ r ++ cur.toList.drop (elt o i sz + j + r.length)).toArray t (0, 0))) (hfit : elt o i sz + j + r.length ≤ cur.size) :
    OwnSat w' t sz (some ⟨b, o, none⟩) n c (xs.set i row') := by
  obtain ⟨_, cur0, hc0, hsz, hseg⟩ := hS.at_ _ rfl
  simp only at hc0 hsz hseg
  have he : cur0 = cur := by rw [hcur] at hc0; injection hc0 with hc0; injection hc0 with hc0; exact hc0.symm
  subst he
  obtain ⟨hl1, hl2⟩ := hl.spec
  have hrow : row.length = sz := hS.rows.lens row (List.mem_of_getElem? hi)
  have hrow' : row'.length = sz := by rw [hl2]; simp; omega
  have hone : ∀ u ∈ row', u.oneCell' = true := by
    intro u hu
    rw [hl2] at hu
    rcases List.mem_append.1 hu with hu | hu
    · rcases List.mem_append.1 hu with hu | hu
      · exact (hS.rows row (List.mem_of_getElem? hi)).2 u (List.mem_of_mem_take hu)
      · exact h1 u hu
    · exact (hS.rows row (List.mem_of_getElem? hi)).2 u (List.mem_of_mem_drop hu)
  have hrows : RowsOk sz (xs.set i row') := by
    intro r0 hr0
    rcases List.mem_or_eq_of_mem_set hr0 with h | h
    · exact hS.rows r0 h
    · subst h; exact ⟨hrow', hone⟩
  refine ⟨by simp [hS.len], hrows, hS.le, hS.max, (fun h => by cases h), fun a ha => ?_⟩
  simp only [Option.some.injEq] at ha
  subst ha
  refine ⟨rfl, _, h', by simp; omega, (seg_iff hrows.lens).2 (show SegR _ o sz _ from ?_)⟩
  have hR := (seg_iff hS.rows.lens).1 hseg
  intro i' row0 hi' j' u hj'
  have hfit' : elt o i sz + j + r.length ≤ cur0.toList.length := by simpa using hfit
  have hjlt : j' < sz := by
    have := (List.getElem?_eq_some_iff.1 hj').1
    rw [hrows.lens row0 (List.mem_of_getElem? hi')] at this; exact this
  rw [List.getElem?_toArray, lay_get hfit']
  unfold elt
  by_cases hii : i' = i
  · subst hii
    have hilt : i' < xs.length := (List.getElem?_eq_some_iff.1 hi).1
    rw [List.getElem?_set_self hilt] at hi'
    simp only [Option.some.injEq] at hi'
    subst hi'
    rw [hl2, lay_get hl1] at hj'
    by_cases h2 : j' < j
    · rw [if_pos h2] at hj'
      rw [if_pos (by omega)]
      simpa using hR i' row hi j' u hj'
    · rw [if_neg h2] at hj'
      rw [if_neg (by omega)]
      by_cases h3 : j' < j + r.length
      · rw [if_pos h3] at hj'
        rw [if_pos (by omega), show o + (i' * sz + j') - (o + i' * sz + j) = j' - j by omega]
        exact hj'
      · rw [if_neg h3] at hj'
        rw [if_neg (by omega)]
        simpa using hR i' row hi j' u hj'
  · rw [List.getElem?_set_ne (Ne.symm hii)] at hi'
    have hu := hR i' row0 hi' j' u hj'
    rcases Nat.lt_or_gt_of_ne hii with hlt | hgt
    · have : (i' + 1) * sz ≤ i * sz := Nat.mul_le_mul_right _ hlt
      rw [Nat.add_mul] at this
      rw [if_pos (by omega)]
      simpa using hu
    · have : (i + 1) * sz ≤ i' * sz := Nat.mul_le_mul_right _ hgt
      rw [Nat.add_mul] at this
      rw [if_neg (by omega), if_neg (by omega)]
      simpa using hu
theorem OwnSat.fit {w : World} {t : TypeId} {sz o n c b : Nat} {xs : List (List Value)} (hS : OwnSat w t sz (some ⟨b, o, none⟩) n c xs) {i : Nat} {row : List Value} (hi : xs[i]? = some row) :
    ∃ cur, w.heap[b]? = some (.cells cur t (0, 0)) ∧ elt o i sz + sz ≤ cur.size := by
  obtain ⟨_, cur, h1, h2, _⟩ := hS.at_ _ rfl
  simp only at h1 h2
  have hi' : i < n := by have := (List.getElem?_eq_some_iff.1 hi).1; rw [hS.len] at this; exact this
  have hle := hS.le
  have : (i + 1) * sz ≤ c * sz := Nat.mul_le_mul_right _ (by omega)
  rw [Nat.add_mul] at this
  exact ⟨cur, h1, by unfold elt; omega⟩

section
variable {P : Program} {N : Nat} {E : Env} {fr : List (Nat × Value)} {hp : List It} {ro : List Ro} {Kn Kr : St → Prop} {Kx : List (Nat × (St → Prop))} {ops : Array Oper} {rest : List Oper} {dst : Option Tmp} {ty : TypeId} {pos : String} {af : Array Edge} {T : TypeId} {x y : Operand} {v : Value} {F : List It}
theorem Sat.reown {w w' : World} {t sz b o n c n' c' : Nat} {xs xs' : List (List Value)} (hf : Frm [b] w w') (hs : OwnSat w' t sz (some ⟨b, o, none⟩) n' c' xs') :
    Sat w (feet [It.own t sz (some ⟨b, o, none⟩) n c xs]) [] [.own t sz (some ⟨b, o, none⟩) n' c' xs'] [] w' :=
  Sat.one (by simpa [feet, It.foot] using hf) hs (fun k hk => .inl (by simp only [It.foot, Option.map_some, Option.some.injEq] at hk; simp [feet, It.foot, hk]))
theorem wo_st_ownf {b o i j sz n c : Nat} {t : TypeId} {xs : List (List Value)} {row row' : List Value} [TOne P T] (hx : opd fr x = some (.pointer (some ⟨b, elt o i sz + j, none⟩))) (hy : opd fr y = some v) (h1 : v.oneCell' = true)
    (hs : hp.Perm (.own t sz (some ⟨b, o, none⟩) n c xs :: F)) (hi : xs[i]? = some row) (hl : SetAt row j v row') (hd : dstOk dst N = true)
    (h : WO P N E ops rest ⟨putF dst undef fr, .own t sz (some ⟨b, o, none⟩) n c (xs.set i row') :: F, ro⟩ Kn) : WO P N E ops (⟨dst, .store T x y, ty, pos, af, none⟩ :: rest) ⟨fr, hp, ro⟩ Kn :=
  wo_eff_skip (L := [_]) hs hd fun a w ok => by
    have hS : OwnSat w t sz (some ⟨b, o, none⟩) n c xs := ok.s.get hs
    obtain ⟨cur, hc, hfit⟩ := hS.fit hi
    have hsp := hl.lay.spec.1
    have hrow := hS.rows.lens row (List.mem_of_getElem? hi)
    have hfit2 : elt o i sz + j + [v].length ≤ cur.size := by simp at hsp ⊢; omega
    obtain ⟨w', h2, h3, h4⟩ := run_storeAt_lay (P := P) (T := T) (r := [v]) (cells_one h1) run_sizeOf_one hc hfit2 (by simpa using h1)
    refine ⟨_, w', ?_, Sat.reown h4 (cells_stored hS hc hi hl.lay (by simpa using h1) h3 hfit2), by simpa using h⟩
    simp only [execOp, ok.h.eval hx, ok.h.eval hy, Sem.run_bind, h2]; rfl
theorem wo_st_own1 {b o i n c : Nat} {t : TypeId} {xs : List (List Value)} {u : Value} [TOne P T] (hx : opd fr x = some (.pointer (some ⟨b, elt o i 1, none⟩))) (hy : opd fr y = some v) (h1 : v.oneCell' = true)
    (hs : hp.Perm (.own t 1 (some ⟨b, o, none⟩) n c xs :: F)) (hi : xs[i]? = some [u]) (hd : dstOk dst N = true)
    (h : WO P N E ops rest ⟨putF dst undef fr, .own t 1 (some ⟨b, o, none⟩) n c (xs.set i [v]) :: F, ro⟩ Kn) : WO P N E ops (⟨dst, .store T x y, ty, pos, af, none⟩ :: rest) ⟨fr, hp, ro⟩ Kn :=
  wo_st_ownf (j := 0) hx hy h1 hs hi .here hd h
theorem wo_st_owna {b o i sz n c : Nat} {t : TypeId} {xs : List (List Value)} {row r : List Value} [TAgg P T sz] (hx : opd fr x = some (.pointer (some ⟨b, elt o i sz, none⟩))) (hy : opd fr y = some (.agg r.toArray)) (h1 : allOne r = true) (hn : Nat.beq r.length sz = true)
    (hs : hp.Perm (.own t sz (some ⟨b, o, none⟩) n c xs :: F)) (hi : xs[i]? = some row) (hd : dstOk dst N = true)
    (h : WO P N E ops rest ⟨putF dst undef fr, .own t sz (some ⟨b, o, none⟩) n c (xs.set i r) :: F, ro⟩ Kn) : WO P N E ops (⟨dst, .store T x y, ty, pos, af, none⟩ :: rest) ⟨fr, hp, ro⟩ Kn :=
  wo_eff_skip (L := [_]) hs hd fun a w ok => by
    have hS : OwnSat w t sz (some ⟨b, o, none⟩) n c xs := ok.s.get hs
    have hn := Nat.eq_of_beq_eq_true hn
    obtain ⟨cur, hc, hfit⟩ := hS.fit hi
    have hrow := hS.rows.lens row (List.mem_of_getElem? hi)
    have hlay : LayAt row 0 r r := by
      have : ∀ (r row : List Value), r.length = row.length → LayAt row 0 r r := by
        intro r
        induction r with
        | nil => intro row h; have : row = [] := List.eq_nil_of_length_eq_zero h.symm; subst this; exact .nil
        | cons a r ih => intro row h; cases row with
          | nil => simp at h
          | cons b row => exact .here (ih row (by simpa using h))
      exact this r row (by omega)
    have hfit2 : elt o i sz + 0 + r.length ≤ cur.size := by omega
    obtain ⟨w', h2, h3, h4⟩ := run_storeAt_lay (P := P) (T := T) (v := .agg r.toArray) rfl (by rw [hn]; exact run_sizeOf_agg) hc hfit2 (allOne_mem h1)
    refine ⟨_, w', ?_, Sat.reown h4 (cells_stored hS hc hi hlay (allOne_mem h1) h3 hfit2), by simpa using h⟩
    simp only [execOp, ok.h.eval hx, ok.h.eval hy, Sem.run_bind]
    rw [show (⟨b, elt o i sz, none⟩ : Addr) = ⟨b, elt o i sz + 0, none⟩ from rfl, h2]; rfl

/-! what is known of an owned slice -/
theorem wc_some {c : Code} {t sz n k : Nat} {ao : Option Addr} {xs : List (List Value)} (hs : hp.Perm (.own t sz ao n k xs :: F)) (hn : 0 < n) (h : ∀ b o, ao = some ⟨b, o, none⟩ → WC P N E c ⟨fr, hp, ro⟩ Kn Kx Kr) : WC P N E c ⟨fr, hp, ro⟩ Kn Kx Kr := fun a w ok => by
  have hS : OwnSat w t sz ao n k xs := ok.s.get hs
  cases ao with
  | none => have := hS.nil rfl; have := hS.le; omega
  | some ad =>
    have h1 := (hS.at_ ad rfl).1
    obtain ⟨b, o, s⟩ := ad
    simp only at h1
    subst h1
    exact h b o rfl a w ok
theorem wo_some {t sz n k : Nat} {ao : Option Addr} {xs : List (List Value)} (hs : hp.Perm (.own t sz ao n k xs :: F)) (hn : 0 < n) (h : ∀ b o, ao = some ⟨b, o, none⟩ → WO P N E ops rest ⟨fr, hp, ro⟩ Kn) : WO P N E ops rest ⟨fr, hp, ro⟩ Kn := fun Q hQ a w ok => by
  have hS : OwnSat w t sz ao n k xs := ok.s.get hs
  cases ao with
  | none => have := hS.nil rfl; have := hS.le; omega
  | some ad =>
    have h1 := (hS.at_ ad rfl).1
    obtain ⟨b, o, s⟩ := ad
    simp only at h1
    subst h1
    exact h b o rfl Q hQ a w ok
theorem wc_own {c : Code} {t sz n k : Nat} {ao : Option Addr} {xs : List (List Value)} (hs : hp.Perm (.own t sz ao n k xs :: F)) (h : xs.length = n → n ≤ k → k ≤ maxLen → WC P N E c ⟨fr, hp, ro⟩ Kn Kx Kr) : WC P N E c ⟨fr, hp, ro⟩ Kn Kx Kr := fun a w ok => by
  have hS : OwnSat w t sz ao n k xs := ok.s.get hs
  exact h hS.len hS.le hS.max a w ok

/-- a nil slice owns nothing -/
theorem Sat.own0 {B : World} {S T : List Nat} {w : World} (h : Sat B S T hp ro w) (t sz : Nat) : Sat B S T (.own t sz none 0 0 [] :: hp) ro w :=
  ⟨h.frm, (by
    intro x hx
    rcases List.mem_cons.1 hx with rfl | hx
    · exact ⟨rfl, (by intro r hr; cases hr), Nat.le_refl _, Nat.zero_le _, fun _ => rfl, (by intro a ha; cases ha)⟩
    · exact h.sat x hx), (by
    intro x hx b hb
    rcases List.mem_cons.1 hx with rfl | hx
    · cases hb
    · exact h.own x hx b hb), List.pairwise_cons.2 ⟨(by intro y _ b hb; cases hb), h.dis⟩, h.rds, (by
    intro r hr x hx
    rcases List.mem_cons.1 hx with rfl | hx
    · intro e; cases e
    · exact h.rod r hr x hx), h.rok⟩
theorem wo_own0 (t sz : Nat) (h : WO P N E ops rest ⟨fr, .own t sz none 0 0 [] :: hp, ro⟩ Kn) : WO P N E ops rest ⟨fr, hp, ro⟩ Kn := fun Q hQ a w ok => h Q hQ a w ⟨ok.h, ok.s.own0 t sz⟩
theorem wc_own0 {c : Code} (t sz : Nat) (h : WC P N E c ⟨fr, .own t sz none 0 0 [] :: hp, ro⟩ Kn Kx Kr) : WC P N E c ⟨fr, hp, ro⟩ Kn Kx Kr := fun a w ok => h a w ⟨ok.h, ok.s.own0 t sz⟩

/-! literals of slices -/
inductive Rws' (fr : List (Nat × Value)) (sz : Nat) : Nat → List (Nat × Operand) → List (List Value) → Prop
  | nil {k} : Rws' fr sz k [] []
  | one {k x v rest xs} (hx : opd fr x = some v) (h1 : v.oneCell' = true) (hz : sz = 1) (h : Rws' fr sz (k + 1) rest xs) : Rws' fr sz k ((k, x) :: rest) ([v] :: xs)
  | agg {k x l rest xs} (hx : opd fr x = some (.agg (List.toArray l))) (hn : Nat.beq l.length sz = true) (ho : allOne l = true) (h : Rws' fr sz (k + 1) rest xs) : Rws' fr sz k ((k, x) :: rest) (l :: xs)
theorem Rws'.ok {fr : List (Nat × Value)} {sz k : Nat} {l : List (Nat × Operand)} {xs : List (List Value)} (h : Rws' fr sz k l xs) : RowsOk sz xs ∧ xs.length = l.length := by
  induction h with
  | nil => exact ⟨(fun r hr => by cases hr), rfl⟩
  | one hx h1 hz _ ih =>
    refine ⟨fun r hr => ?_, by simp [ih.2]⟩
    rcases List.mem_cons.1 hr with rfl | hr
    · exact ⟨by simp [hz], by simpa using h1⟩
    · exact ih.1 r hr
  | agg hx hn ho _ ih =>
    refine ⟨fun r hr => ?_, by simp [ih.2]⟩
    rcases List.mem_cons.1 hr with rfl | hr
    · exact ⟨Nat.eq_of_beq_eq_true hn, allOne_mem ho⟩
    · exact ih.1 r hr
theorem LayAt.mk : ∀ {l r : List Value} {n : Nat}, n + r.length ≤ l.length → LayAt l n r (l.take n ++ r ++ l.drop (n + r.length))
  | l, [], 0, _ => by simpa using LayAt.nil
  | [], _ :: _, 0, h => by simp at h
  | x :: l, v :: r, 0, h => by
    have := LayAt.here (x := x) (v := v) (LayAt.mk (l := l) (r := r) (n := 0) (by simp at h ⊢; omega))
    simpa using this
  | [], r, n + 1, h => by simp at h
  | x :: l, r, n + 1, h => by
    have := LayAt.there (x := x) (LayAt.mk (l := l) (r := r) (n := n) (by simp at h ⊢; omega))
    simpa [Nat.add_right_comm] using this
theorem fill_rws {fr : List (Nat × Value)} {a : Act} {sz k : Nat} {l : List (Nat × Operand)} {xs : List (List Value)} (h : Rws' fr sz k l xs) (hh : Holds N fr a) : ∀ (z : List Value), z.length = (k + l.length) * sz →
    Instr.fill (fun i => some (i * sz, sz)) z.toArray (l.map fun p => (p.1, a.eval p.2)) = some (z.take (k * sz) ++ xs.flatten).toArray := by
  induction h with
  | @nil k => intro z hz; simp at hz; simp [Instr.fill]; rw [List.take_of_length_le (by omega)]
  | @one k x v rest xs hx h1 hz h ih =>
    intro z hzl
    subst hz
    have hle : k * 1 + [v].length ≤ z.length := by simp at hzl ⊢; omega
    have hlen : (z.take (k * 1) ++ [v] ++ z.drop (k * 1 + [v].length)).length = z.length := by simp at hle ⊢; omega
    rw [List.map_cons, fill_bld (l := [v]) (off := k * 1) rfl (by rw [hh.eval hx]; exact cells_one h1) (LayAt.mk hle), ih _ (by rw [hlen, hzl, List.length_cons]; congr 1; omega)]
    have h2 : (z.take (k * 1)).length = k * 1 := by simp at hle ⊢; omega
    congr 2
    rw [List.append_assoc, List.take_append, h2, List.take_of_length_le (by rw [h2]; omega)]
    simp
  | @agg k x r rest xs hx hn ho h ih =>
    intro z hzl
    have hn := Nat.eq_of_beq_eq_true hn
    subst hn
    have hle : k * r.length + r.length ≤ z.length := by rw [hzl, List.length_cons, ← Nat.add_one_mul]; exact Nat.mul_le_mul_right _ (by omega)
    have hlen : (z.take (k * r.length) ++ r ++ z.drop (k * r.length + r.length)).length = z.length := by simp; omega
    rw [List.map_cons, fill_bld (off := k * r.length) rfl (by rw [hh.eval hx]; rfl) (LayAt.mk hle), ih _ (by rw [hlen, hzl, List.length_cons]; congr 1; omega)]
    have h2 : (z.take (k * r.length)).length = k * r.length := by simp; omega
    congr 2
    rw [List.append_assoc, List.take_append, h2, List.take_of_length_le (by rw [h2, Nat.add_mul]; omega)]
    simp [Nat.add_mul]
theorem wo_bsl {d n e sz by_ : Nat} {l : List (Nat × Operand)} {xs : List (List Value)} [hT : TSl P T e sz by_] (hr : Rws' fr sz 0 l xs) (hn : Nat.beq l.length n = true) (hz : Nat.ble (n * sz) 1000000 = true) (hm : Nat.ble n 1000000 = true) (hd : Nat.ble (d + 1) N = true)
    (h : ∀ b, WO P N E ops rest ⟨(d, .slice (some ⟨b, 0, none⟩) n n) :: fr, .own e sz (some ⟨b, 0, none⟩) n n xs :: hp, ro⟩ Kn) : WO P N E ops (⟨some d, .buildSlice T n l.toArray, ty, pos, af, none⟩ :: rest) ⟨fr, hp, ro⟩ Kn :=
  wo_eff (L := []) (.refl _) hd fun a w ok => by
    obtain ⟨i, z, h1, h2, h3, h4, h5, h6, h7⟩ := sl_und hT.h
    have hn := Nat.eq_of_beq_eq_true hn
    have hz := Nat.le_of_ble_eq_true hz
    have hm := Nat.le_of_ble_eq_true hm
    have hfill := fill_rws hr ok.h ((List.range (n * sz)).map fun j => z.cells[j % z.cells.size]!) (by simp [hn])
    have hrows := hr.ok
    simp only [Nat.zero_mul, List.take_zero, List.nil_append] at hfill
    refine ⟨.slice (some ⟨w.heap.size, 0, none⟩) n n, [.own e sz (some ⟨w.heap.size, 0, none⟩) n n xs], w.alloc (.cells xs.flatten.toArray e), ?_, ?_, h _⟩
    · have hbig : ¬ n * sz > 2 ^ 24 := by omega
      have e0 : (List.map (fun (x : Nat × Operand) => match x with | (i, x) => (i, a.eval x)) l) = l.map (fun p => (p.1, a.eval p.2)) := rfl
      have hsz : (sizeOf e).run P w = .ok sz w := by simp [sizeOf, typeInfo, h2, h5, go_sem]
      have hzv : (zeroValue e).run P w = .ok z w := by simp [zeroValue, typeInfo, h2, h3, go_sem]
      simp only [execOp, List.map_toArray, e0]
      generalize (l.map fun p => (p.1, a.eval p.2)) = parts at hfill ⊢
      by_cases h0 : n * sz = 0
      · have hr0 : ∀ f : Nat → Value, (Array.range (n * sz)).map f = #[] := fun f => by rw [h0]; simp
        have hl0 : ((List.range (n * sz)).map fun j => z.cells[j % z.cells.size]!).toArray = #[] := by rw [h0]; rfl
        rw [hl0] at hfill
        simp only [Instr.buildSlice, Sem.run_bind, run_underlying h1, Result.andThen_ok, hsz, hbig, if_false, h0, if_true, Sem.run_pure]
        simp only [h0] at hr0
        simp only [hr0, hfill]
        rfl
      · have hr0 : (Array.range (n * sz)).map (fun j => z.cells[j % z.cells.size]!) = ((List.range (n * sz)).map fun j => z.cells[j % z.cells.size]!).toArray := by apply Array.ext'; simp
        simp only [Instr.buildSlice, Sem.run_bind, run_underlying h1, Result.andThen_ok, hsz, hbig, if_false, h0, Sem.run_pure, hzv, hr0, hfill]
        rfl
    · refine Sat.one ⟨rfl, rfl, rfl, by simp, fun k hk _ => Below.heap_alloc w _ k hk⟩ ?_ (fun b hb => .inr (by simp only [It.foot, Option.map_some, Option.some.injEq] at hb; omega))
      refine ⟨by rw [hrows.2, hn], hrows.1, Nat.le_refl _, by unfold maxLen; omega, (fun h => by cases h), fun ad had => ?_⟩
      simp only [Option.some.injEq] at had
      subst had
      refine ⟨rfl, _, heap_alloc_new w _, ?_, fun j u hj => by simpa using hj⟩
      have := flat_len hrows.1.lens
      rw [hrows.2, hn] at this
      simp only [List.size_toArray, this]; omega

/-! append -/
theorem World.setCells_spec (b : Nat) (t : TypeId) : ∀ (r : List Value) (o : Nat) (w : World) (cur : Array Value), w.heap[b]? = some (.cells cur t (0, 0)) → o + r.length ≤ cur.size →
    (w.setCells b o r).heap[b]? = some (.cells (cur.toList.take o ++ r ++ cur.toList.drop (o + r.length)).toArray t (0, 0)) ∧ Frm [b] w (w.setCells b o r)
  | [], o, w, cur, h, _ => ⟨by simpa [World.setCells] using h, Frm.refl _ _⟩
  | v :: r, o, w, cur, h, hl => by
    have h1 : (w.setCell ⟨b, o, none⟩ v).heap[b]? = some (.cells (cur.setIfInBounds o v) t (0, 0)) := Blk.set h o v
    obtain ⟨h2, h3⟩ := World.setCells_spec b t r (o + 1) _ _ h1 (by simp at hl ⊢; omega)
    have hsz : (w.setCell ⟨b, o, none⟩ v).heap.size = w.heap.size := by simp [World.setCell]
    refine ⟨?_, ⟨h3.os, h3.tape, h3.output, by have := h3.size; rw [World.setCells]; omega, fun k hk hn => ?_⟩⟩
    · rw [World.setCells, h2]
      congr 3
      have hlo : o < cur.toList.length := by simp at hl ⊢; omega
      rw [Array.toList_setIfInBounds]
      apply List.ext_getElem?
      intro j
      have hA : o + 1 + r.length ≤ (cur.toList.set o v).length := by simp at hl ⊢; omega
      have hB : o + (v :: r).length ≤ cur.toList.length := by simpa using hl
      rw [lay_get hA, lay_get hB]
      simp only [List.length_cons]
      by_cases c1 : j < o
      · rw [if_pos (by omega), if_pos c1, List.getElem?_set_ne (by omega)]
      · rw [if_neg c1]
        by_cases c2 : j = o
        · subst c2
          rw [if_pos (by omega), if_pos (by omega), List.getElem?_set_self hlo]; simp
        · by_cases c3 : j < o + (r.length + 1)
          · rw [if_neg (by omega), if_pos (by omega), if_pos c3, show j - o = (j - (o + 1)) + 1 by omega]; simp
          · rw [if_neg (by omega), if_neg (by omega), if_neg c3, List.getElem?_set_ne (by omega)]
    · exact (h3.block k (by omega) hn).trans (Below.heap_setCell w _ v k (fun e => hn (by simp [e])))
theorem own_of_row {w : World} {base e sz n : Nat} {v : Value} {xs : List (List Value)} (hr : RowsOk sz xs) (hn : xs.length = n) (h : w.ownsRow base e sz v n xs.flatten) :
    ∃ ao c, v = .slice ao n c ∧ OwnSat w e sz ao n c xs ∧ ∀ a, ao = some a → base ≤ a.block ∧ a.off = 0 := by
  rcases h.2 with ⟨rfl, h0⟩ | ⟨g, cap, cur, rfl, hb, hg, h1, h2, h3, h4⟩
  · subst h0
    exact ⟨none, 0, rfl, ⟨hn, hr, Nat.le_refl _, Nat.zero_le _, fun _ => rfl, (fun a ha => by cases ha)⟩, (fun a ha => by cases ha)⟩
  · refine ⟨_, cap, rfl, ⟨hn, hr, h1, h2, (fun h => by cases h), fun a ha => ?_⟩, fun a ha => ?_⟩
    · simp only [Option.some.injEq] at ha
      subst ha
      refine ⟨rfl, cur, hg, by simp [h3], fun j u hj => ?_⟩
      rw [← h4, List.getElem?_take] at hj
      split at hj
      · simpa using hj
      · cases hj
    · simp only [Option.some.injEq] at ha
      subst ha; exact ⟨hb, rfl⟩
theorem run_append_sl {w : World} {t ty e sz by_ : Nat} [hT : TSl P t e sz by_] {ao : Option Addr} {n c : Nat} {xs ys : List (List Value)} {ad : Addr} {m c2 : Nat} (hS : OwnSat w e sz ao n c xs) (hy : RowsOk sz ys) (hm : ys.length = m)
    (hc : ∀ j u, ys.flatten[j]? = some u → w.cell? (ad.add j) = some u) (b1 : n + m ≤ maxLen) (b2 : (n + m) * by_ ≤ 140737488355328) :
    ∃ ao' c' w', (Builtin.append_ #[t, t] ty #[.slice ao n c, .slice (some ad) m c2]).run P w = .ok (.slice ao' (n + m) c') w' ∧ OwnSat w' e sz ao' (n + m) c' (xs ++ ys) ∧ Frm (feet [It.own e sz ao n c xs]) w w' ∧
      (∀ b, (It.own e sz ao' (n + m) c' (xs ++ ys)).foot = some b → b ∈ feet [It.own e sz ao n c xs] ∨ w.heap.size ≤ b) ∧ ∀ a, ao' = some a → a.off = 0 ∨ ao' = ao := by
  obtain ⟨i, z, h1, h2, h3, h4, h5, h6, h7⟩ := sl_und hT.h
  have hrows : RowsOk sz (xs ++ ys) := fun r hr => by
    rcases List.mem_append.1 hr with hr | hr
    · exact hS.rows r hr
    · exact hy r hr
  have hlen : (xs ++ ys).length = n + m := by simp [hS.len, hm]
  have hfl : (xs ++ ys).flatten = xs.flatten ++ ys.flatten := List.flatten_append
  have hxl : xs.flatten.length = n * sz := by rw [flat_len hS.rows.lens, hS.len]
  have hyl : ys.flatten.length = m * sz := by rw [flat_len hy.lens, hm]
  have hone : ∀ u ∈ ys.flatten, u.oneCell' = true := fun u hu => by
    obtain ⟨r, hr, hu⟩ := List.mem_flatten.1 hu
    exact (hy r hr).2 u hu
  have fin : ∀ v' w', (Builtin.append_ #[t, t] ty #[.slice ao n c, .slice (some ad) m c2]).run P w = .ok v' w' → w'.ownsRow w.heap.size e sz v' (n + m) (xs.flatten ++ ys.flatten) → w.grownBy w' none →
      ∃ ao' c' w', (Builtin.append_ #[t, t] ty #[.slice ao n c, .slice (some ad) m c2]).run P w = .ok (.slice ao' (n + m) c') w' ∧ OwnSat w' e sz ao' (n + m) c' (xs ++ ys) ∧ Frm (feet [It.own e sz ao n c xs]) w w' ∧
      (∀ b, (It.own e sz ao' (n + m) c' (xs ++ ys)).foot = some b → b ∈ feet [It.own e sz ao n c xs] ∨ w.heap.size ≤ b) ∧ ∀ a, ao' = some a → a.off = 0 ∨ ao' = ao := by
    intro v' w' hr ho hg
    rw [← hfl] at ho
    obtain ⟨ao', c', rfl, hO, hB⟩ := own_of_row hrows hlen ho
    refine ⟨ao', c', w', hr, hO, ⟨hg.os, hg.tape, hg.output, hg.size, fun k hk _ => hg.block k hk (by simp)⟩, fun b hb => .inr ?_, fun a ha => .inl (hB a ha).2⟩
    cases ao' with
    | none => cases hb
    | some a =>
      simp only [It.foot, Option.map_some, Option.some.injEq] at hb
      subst hb
      exact (hB a rfl).1
  cases ao with
  | none =>
    have hc0 := hS.nil rfl
    have hle := hS.le
    subst hc0
    obtain rfl : n = 0 := by omega
    have hx0 : xs = [] := List.eq_nil_of_length_eq_zero hS.len
    subst hx0
    obtain ⟨v', w', hr, ho, hg, _⟩ := run_append_own (P := P) w w.heap.size t ty e i z sz by_ h1 h2 h3 h5 h6 h4 h7 (.slice none 0 0) 0 [] (World.ownsRow_nil w _ e sz) ad m c2 ys.flatten hyl hc hone b1 b2 (Nat.le_refl _)
    exact fin v' w' hr (by simpa using ho) hg
  | some a =>
    obtain ⟨hsp, cur, hcur, hfit, hseg⟩ := hS.at_ a rfl
    obtain ⟨b, o, s⟩ := a
    simp only at hsp hcur hfit hseg
    subst hsp
    by_cases hroom : n + m ≤ c
    · have hfit2 : o + n * sz + ys.flatten.length ≤ cur.size := by
        rw [hyl]
        have : (n + m) * sz ≤ c * sz := Nat.mul_le_mul_right _ hroom
        rw [Nat.add_mul] at this; omega
      subst h5
      have hr := run_append_room_cells (P := P) w t ty e i h1 h2 b o n c ad m c2 ys.flatten hyl hc hone hroom (fun j hj => by simp [World.cell?, hcur]; omega) (fun j hj => by simp [World.frozen?, hcur])
      obtain ⟨hk1, hk2⟩ := World.setCells_spec b e ys.flatten (o + n * i.size) w cur hcur hfit2
      refine ⟨_, _, _, hr, ⟨hlen, hrows, hroom, hS.max, (fun h => by cases h), fun a ha => ?_⟩, by simpa [feet, It.foot] using hk2, fun k hk => .inl (by simp only [It.foot, Option.map_some, Option.some.injEq] at hk; simp [feet, It.foot, hk]), fun _ _ => .inr rfl⟩
      simp only [Option.some.injEq] at ha
      subst ha
      refine ⟨rfl, _, hk1, by simp; omega, fun j u hj => ?_⟩
      simp only
      rw [List.getElem?_toArray, lay_get (by simpa using hfit2)]
      rw [hfl] at hj
      by_cases c1 : j < n * i.size
      · rw [if_pos (by omega)]
        rw [List.getElem?_append_left (by omega)] at hj
        simpa using hseg j u hj
      · rw [List.getElem?_append_right (by omega), hxl] at hj
        have := (List.getElem?_eq_some_iff.1 hj).1
        rw [if_neg (by omega), if_pos (by omega), show o + j - (o + n * i.size) = j - n * i.size by omega]
        exact hj
    · obtain ⟨v', w', hr, ho, hg⟩ := run_append_arg_grows (P := P) w t ty e i z sz by_ h1 h2 h3 h5 h6 h4 h7 ⟨b, o, none⟩ n c xs.flatten hxl (fun j u hj => by
        rw [Addr.add_lit]; simp only [World.cell?, hcur]; exact hseg j u hj) ad m c2 ys.flatten hyl hc (by omega) b1 b2
      exact fin v' w' hr ho hg
theorem exec_append {a : Act} {t : TypeId} {g : Option (Nat × Bool)} {u v : Value} {w : World} (hx : a.eval x = u) (hy : a.eval y = v) {r : Value} {w' : World} (h : (Builtin.append_ #[t, t] ty #[u, v]).run P w = .ok r w') :
    (execOp a.eval ⟨dst, .call ⟨.builtin .append, #[x, y], #[t, t]⟩, ty, pos, af, g⟩).run P w = .ok (.value r) w' := by
  simp only [execOp, resolve, List.map_toArray, List.map_cons, List.map_nil, hx, hy]
  simp only [Sem.run_bind, Sem.run_pure, Result.andThen_ok, invoke, builtin, h]
theorem Sat.regrow {w w' : World} {x y : It} (hf : Frm (feet [x]) w w') (hs : y.sat w') (ho : ∀ b, y.foot = some b → b ∈ feet [x] ∨ w.heap.size ≤ b) : Sat w (feet [x]) [] [y] [] w' := Sat.one hf hs ho
/-- append of an owned slice's elements -/
theorem wo_app {d t e sz by_ n c m c2 : Nat} {ao ao2 : Option Addr} {xs ys : List (List Value)} {F2 : List It} [TSl P t e sz by_] (hx : opd fr x = some (.slice ao n c)) (hy : opd fr y = some (.slice ao2 m c2))
    (hs : hp.Perm (.own e sz ao n c xs :: F)) (hs2 : hp.Perm (.own e sz ao2 m c2 ys :: F2)) (b1 : n + m ≤ maxLen) (b2 : (n + m) * by_ ≤ 140737488355328) (hd : Nat.ble (d + 1) N = true)
    (h : ∀ ao' c', WO P N E ops rest ⟨(d, .slice ao' (n + m) c') :: fr, .own e sz ao' (n + m) c' (xs ++ ys) :: F, ro⟩ Kn) : WO P N E ops (⟨some d, .call ⟨.builtin .append, #[x, y], #[t, t]⟩, ty, pos, af, none⟩ :: rest) ⟨fr, hp, ro⟩ Kn :=
  wo_eff (L := [_]) hs hd fun a w ok => by
    have hS : OwnSat w e sz ao n c xs := ok.s.get hs
    have hS2 : OwnSat w e sz ao2 m c2 ys := ok.s.get hs2
    cases ao2 with
    | none =>
      obtain ⟨i, z, h1, h2, h3, h4, h5, h6, h7⟩ := sl_und (TSl.h (P := P) (T := t))
      have hc0 := hS2.nil rfl
      have hle := hS2.le
      obtain rfl : m = 0 := by omega
      obtain rfl : ys = [] := List.eq_nil_of_length_eq_zero hS2.len
      refine ⟨.slice ao n c, [.own e sz ao n c xs], w, exec_append (ok.h.eval hx) (ok.h.eval hy) ?_, Sat.regrow (Frm.refl _ _) hS (fun b hb => .inl (mem_feet.2 ⟨_, .head _, hb⟩)), by simpa [putF] using h ao c⟩
      have hn0 : n + 0 ≤ c := by have := hS.le; omega
      cases ao <;> simp [Builtin.append_, run_underlying h1, sizeOf, typeInfo, h2, Builtin.lenOf, hn0, Builtin.firstCells, storeCells, go_sem] <;> (have := hS.le; omega)
    | some ad =>
      obtain ⟨hsp, cur, hcur, _, hseg⟩ := hS2.at_ ad rfl
      obtain ⟨b, o, s⟩ := ad
      simp only at hsp hcur hseg
      subst hsp
      obtain ⟨ao', c', w', h1, h2, h3, h4, h5⟩ := run_append_sl (P := P) (t := t) (ty := ty) (ad := ⟨b, o, none⟩) (c2 := c2) hS hS2.rows hS2.len (fun j u hj => by rw [Addr.add_lit]; simp only [World.cell?, hcur]; exact hseg j u hj) b1 b2
      exact ⟨_, [.own e sz ao' (n + m) c' (xs ++ ys)], w', exec_append (ok.h.eval hx) (ok.h.eval hy) h1, Sat.regrow h3 h2 h4, by simpa [putF] using h ao' c'⟩
/-- the same, and where the elements lie: at a block's head, or where they lay -/
theorem wo_app0 {d t e sz by_ n c m c2 : Nat} {ao : Option Addr} {ad : Addr} {xs ys : List (List Value)} {F2 : List It} [TSl P t e sz by_] (hx : opd fr x = some (.slice ao n c)) (hy : opd fr y = some (.slice (some ad) m c2))
    (hs : hp.Perm (.own e sz ao n c xs :: F)) (hs2 : hp.Perm (.own e sz (some ad) m c2 ys :: F2)) (b1 : n + m ≤ maxLen) (b2 : (n + m) * by_ ≤ 140737488355328) (hd : Nat.ble (d + 1) N = true)
    (h : ∀ ao' c', (∀ a, ao' = some a → (∃ b, ao' = some ⟨b, 0, none⟩) ∨ ao' = ao) → (ao' = none → n + m = 0) → n + m ≤ c' → WO P N E ops rest ⟨(d, .slice ao' (n + m) c') :: fr, .own e sz ao' (n + m) c' (xs ++ ys) :: F, ro⟩ Kn) : WO P N E ops (⟨some d, .call ⟨.builtin .append, #[x, y], #[t, t]⟩, ty, pos, af, none⟩ :: rest) ⟨fr, hp, ro⟩ Kn :=
  wo_eff (L := [_]) hs hd fun a w ok => by
    have hS : OwnSat w e sz ao n c xs := ok.s.get hs
    have hS2 : OwnSat w e sz (some ad) m c2 ys := ok.s.get hs2
    obtain ⟨hsp, cur, hcur, _, hseg⟩ := hS2.at_ ad rfl
    obtain ⟨b, o, s⟩ := ad
    simp only at hsp hcur hseg
    subst hsp
    obtain ⟨ao', c', w', h1, h2, h3, h4, h5⟩ := run_append_sl (P := P) (t := t) (ty := ty) (ad := ⟨b, o, none⟩) (c2 := c2) hS hS2.rows hS2.len (fun j u hj => by rw [Addr.add_lit]; simp only [World.cell?, hcur]; exact hseg j u hj) b1 b2
    exact ⟨_, [.own e sz ao' (n + m) c' (xs ++ ys)], w', exec_append (ok.h.eval hx) (ok.h.eval hy) h1, Sat.regrow h3 h2 h4, by simpa [putF] using h ao' c' (fun a ha => (h5 a ha).imp_left (fun h0 => ⟨a.block, by rw [ha]; obtain ⟨b', o', s'⟩ := a; have := (h2.at_ _ ha).1; simp only at this h0 ⊢; rw [this, h0]⟩)) (fun e => by have := h2.nil e; have := h2.le; omega) h2.le⟩
/-- append of a segment that is only read -/
theorem wo_app_ro {d t e sz by_ n c m c2 b o : Nat} {ao : Option Addr} {xs ys : List (List Value)} [TSl P t e sz by_] (hx : opd fr x = some (.slice ao n c)) (hy : opd fr y = some (.slice (some ⟨b, o, none⟩) m c2))
    (hs : hp.Perm (.own e sz ao n c xs :: F)) (hr : ⟨b, o, sz, ys⟩ ∈ ro) (hm : ys.length = m) (b1 : n + m ≤ maxLen) (b2 : (n + m) * by_ ≤ 140737488355328) (hd : Nat.ble (d + 1) N = true)
    (h : ∀ ao' c', WO P N E ops rest ⟨(d, .slice ao' (n + m) c') :: fr, .own e sz ao' (n + m) c' (xs ++ ys) :: F, ro⟩ Kn) : WO P N E ops (⟨some d, .call ⟨.builtin .append, #[x, y], #[t, t]⟩, ty, pos, af, none⟩ :: rest) ⟨fr, hp, ro⟩ Kn :=
  wo_eff (L := [_]) hs hd fun a w ok => by
    have hS : OwnSat w e sz ao n c xs := ok.s.get hs
    obtain ⟨hro, cur, tt, fz, hcur, hseg⟩ := ok.s.rds _ hr
    simp only at hro hcur hseg
    obtain ⟨ao', c', w', h1, h2, h3, h4, h5⟩ := run_append_sl (P := P) (t := t) (ty := ty) (ad := ⟨b, o, none⟩) (c2 := c2) hS hro hm (fun j u hj => by rw [Addr.add_lit]; simp only [World.cell?, hcur]; exact hseg j u hj) b1 b2
    exact ⟨_, [.own e sz ao' (n + m) c' (xs ++ ys)], w', exec_append (ok.h.eval hx) (ok.h.eval hy) h1, Sat.regrow h3 h2 h4, by simpa [putF] using h ao' c'⟩

/-! cuts -/
theorem OwnSat.cut {w : World} {t sz n c l h m : Nat} {ao : Option Addr} {xs : List (List Value)} (hS : OwnSat w t sz ao n c xs) (h1 : l ≤ h) (h2 : h ≤ n) (h3 : h ≤ m) (h4 : m ≤ c) :
    OwnSat w t sz (if m = l then ao else ao.map (·.add (l * sz))) (h - l) (m - l) ((xs.take h).drop l) := by
  have hrows : RowsOk sz ((xs.take h).drop l) := fun r hr => hS.rows r (List.mem_of_mem_take (List.mem_of_mem_drop hr))
  have hlen : ((xs.take h).drop l).length = h - l := by simp [hS.len]; omega
  have hmax := hS.max
  have hle := hS.le
  refine ⟨hlen, hrows, by omega, by omega, fun e => ?_, fun a ha => ?_⟩
  · by_cases c1 : m = l
    · omega
    · rw [if_neg c1] at e
      cases ao with
      | none => have := hS.nil rfl; omega
      | some a => cases e
  · by_cases c1 : m = l
    · rw [if_pos c1] at ha
      obtain ⟨g1, cur, g2, g3, g4⟩ := hS.at_ a ha
      have h0 : (xs.take h).drop l = [] := List.eq_nil_of_length_eq_zero (by omega)
      refine ⟨g1, cur, g2, ?_, ?_⟩
      · have : (m - l) * sz = 0 := by rw [show m - l = 0 by omega]; simp
        omega
      · rw [h0]; intro j u hj; simp at hj
    · rw [if_neg c1] at ha
      cases ao with
      | none => cases ha
      | some a0 =>
        obtain ⟨g1, cur, g2, g3, g4⟩ := hS.at_ a0 rfl
        obtain ⟨b, o, s⟩ := a0
        simp only at g1 g2 g3 g4
        subst g1
        rw [Option.map_some, Option.some.injEq, Addr.add_lit] at ha
        subst ha
        refine ⟨rfl, cur, g2, ?_, ?_⟩
        · have e1 : l * sz + (m - l) * sz = m * sz := by rw [← Nat.add_mul]; congr 1; omega
          have e2 : m * sz ≤ c * sz := Nat.mul_le_mul_right _ h4
          simp only; omega
        · refine (seg_iff hrows.lens).2 ?_
          have hR := (seg_iff hS.rows.lens).1 g4
          intro i row hi j u hj
          rw [List.getElem?_drop, List.getElem?_take] at hi
          split at hi
          · have := hR (l + i) row hi j u hj
            rw [show o + l * sz + (i * sz + j) = o + ((l + i) * sz + j) by rw [Nat.add_mul]; omega]
            exact this
          · cases hi
theorem Ro.cut {w : World} {b o sz l h : Nat} {xs : List (List Value)} (hS : Ro.sat w ⟨b, o, sz, xs⟩) : Ro.sat w ⟨b, elt o l sz, sz, (xs.take h).drop l⟩ := by
  obtain ⟨h0, cur, t, fz, h1, h2⟩ := hS
  simp only at h0 h1 h2
  have hrows : RowsOk sz ((xs.take h).drop l) := fun r hr => h0 r (List.mem_of_mem_take (List.mem_of_mem_drop hr))
  refine ⟨hrows, cur, t, fz, h1, (seg_iff hrows.lens).2 ?_⟩
  have hR := (seg_iff h0.lens).1 h2
  intro i row hi j u hj
  rw [List.getElem?_drop, List.getElem?_take] at hi
  split at hi
  · have := hR (l + i) row hi j u hj
    unfold elt
    rw [show o + l * sz + (i * sz + j) = o + ((l + i) * sz + j) by rw [Nat.add_mul]; omega]
    exact this
  · cases hi
/-- the bounds of a cut, as the operands give them -/
inductive Bnds (fr : List (Nat × Value)) (n c : Nat) : Option Operand → Option Operand → Option Operand → Nat → Nat → Nat → Prop
  | lo {x k} {l : Nat} {z : Int} (hx : opd fr x = some (.int k z)) (hz : z = (l : Int)) (hl : l ≤ n) : Bnds fr n c (some x) none none l n c
  | hi {y k} {h : Nat} {z : Int} (hy : opd fr y = some (.int k z)) (hz : z = (h : Int)) (hh : h ≤ c) : Bnds fr n c none (some y) none 0 h c
  | lohi {x y k k'} {l h : Nat} {z z' : Int} (hx : opd fr x = some (.int k z)) (hz : z = (l : Int)) (hy : opd fr y = some (.int k' z')) (hz' : z' = (h : Int)) (hl : l ≤ h) (hh : h ≤ c) : Bnds fr n c (some x) (some y) none l h c
  | himax {y u k k'} {h m : Nat} {z z' : Int} (hy : opd fr y = some (.int k z)) (hz : z = (h : Int)) (hu : opd fr u = some (.int k' z')) (hz' : z' = (m : Int)) (hh : h ≤ m) (hm : m ≤ c) : Bnds fr n c none (some y) (some u) 0 h m
  | all : Bnds fr n c none none none 0 n c
theorem Bnds.run {fr : List (Nat × Value)} {n c l h m : Nat} {lo hi mx : Option Operand} {a : Act} {w : World} {isS : Bool} (hb : Bnds fr n c lo hi mx l h m) (hh : Holds N fr a) (hS : mx.isSome = true → isS = true) :
    (Instr.sliceBounds isS n c (lo.map a.eval) (hi.map a.eval) (mx.map a.eval)).run P w = .ok (l, h, m) w := by
  have key : ∀ (k : IntKind) (l y : Nat) (code : BoundsCode), l ≤ y → (Instr.sliceBound (.int k (l : Int)) y code).run P w = .ok l w := by
    intro k l y code hl
    have : (0 : Int) ≤ (l : Int) ∧ (l : Int) ≤ (y : Int) := by omega
    simp only [Instr.sliceBound, asIntOf, Sem.run_bind, Sem.run_pure, Result.andThen_ok, this, and_self, if_true, Int.toNat_natCast]
  cases hb with
  | lo hx hz hl => subst hz; simp only [Instr.sliceBounds, Option.map_some, Option.map_none, hh.eval hx, Sem.run_bind, Sem.run_pure, Result.andThen_ok, key _ _ _ _ hl]
  | hi hy hz hl => subst hz; simp only [Instr.sliceBounds, Option.map_some, Option.map_none, hh.eval hy, Sem.run_bind, Sem.run_pure, Result.andThen_ok, key _ _ _ _ hl]
  | lohi hx hz hy hz' hl hl' => subst hz; subst hz'; simp only [Instr.sliceBounds, Option.map_some, Option.map_none, hh.eval hx, hh.eval hy, Sem.run_bind, Sem.run_pure, Result.andThen_ok, key _ _ _ _ hl, key _ _ _ _ hl']
  | himax hy hz hu hz' hl hl' => subst hz; subst hz'; simp only [Instr.sliceBounds, Option.map_some, Option.map_none, hh.eval hy, hh.eval hu, Sem.run_bind, Sem.run_pure, Result.andThen_ok, key _ _ _ _ hl, key _ _ _ _ hl']
  | all => simp only [Instr.sliceBounds, Option.map_none, Sem.run_bind, Sem.run_pure, Result.andThen_ok]
theorem exec_cut {a : Act} {e sz by_ n c l h m : Nat} {ao : Option Addr} {lo hi mx : Option Operand} {w : World} {g : Option (Nat × Bool)} [hT : TSl P T e sz by_] (hh : Holds N fr a) (hx : opd fr x = some (.slice ao n c)) (hb : Bnds fr n c lo hi mx l h m) :
    (execOp a.eval ⟨dst, .slice T x lo hi mx, ty, pos, af, g⟩).run P w = .ok (.value (.slice (if m = l then ao else ao.map (·.add (l * sz))) (h - l) (m - l))) w := by
  obtain ⟨i, z, h1, h2, h3, h4, h5, h6, h7⟩ := sl_und hT.h
  have hsz : (sizeOf e).run P w = .ok sz w := by simp [sizeOf, typeInfo, h2, h5, go_sem]
  simp only [execOp, hh.eval hx, Instr.sliceAt, Sem.run_bind, run_underlying h1, Result.andThen_ok, Instr.slice, hb.run hh (fun _ => rfl), hsz, Sem.run_pure]
theorem wo_cut {d e sz by_ n c l h m : Nat} {ao : Option Addr} {xs : List (List Value)} {lo hi mx : Option Operand} [TSl P T e sz by_] (hx : opd fr x = some (.slice ao n c)) (hs : hp.Perm (.own e sz ao n c xs :: F)) (hb : Bnds fr n c lo hi mx l h m)
    (hlh : l ≤ h ∧ h ≤ n ∧ h ≤ m ∧ m ≤ c) (hd : Nat.ble (d + 1) N = true)
    (hk : ∀ ao', WO P N E ops rest ⟨(d, .slice ao' (h - l) (m - l)) :: fr, .own e sz ao' (h - l) (m - l) ((xs.take h).drop l) :: F, ro⟩ Kn) : WO P N E ops (⟨some d, .slice T x lo hi mx, ty, pos, af, none⟩ :: rest) ⟨fr, hp, ro⟩ Kn :=
  wo_eff (L := [_]) hs hd fun a w ok => by
    have hS : OwnSat w e sz ao n c xs := ok.s.get hs
    refine ⟨_, [.own e sz (if m = l then ao else ao.map (·.add (l * sz))) (h - l) (m - l) ((xs.take h).drop l)], w, exec_cut ok.h hx hb, Sat.regrow (Frm.refl _ _) (hS.cut hlh.1 hlh.2.1 hlh.2.2.1 hlh.2.2.2) (fun b hbb => .inl ?_), by simpa [putF] using hk _⟩
    refine mem_feet.2 ⟨_, .head _, ?_⟩
    by_cases c1 : m = l
    · simpa [It.foot, c1] using hbb
    · cases ao with
      | none => simp [It.foot, c1] at hbb
      | some a0 =>
        simp only [It.foot, c1, if_false, Option.map_some, Option.some.injEq] at hbb ⊢
        rw [← hbb]; unfold Addr.add; split <;> rfl
theorem wo_cut_lo {d e sz by_ n c l : Nat} {ao : Option Addr} {xs : List (List Value)} {lo : Operand} {z : Int} {k : IntKind} [TSl P T e sz by_] (hx : opd fr x = some (.slice ao n c)) (hs : hp.Perm (.own e sz ao n c xs :: F)) (hlo : opd fr lo = some (.int k z)) (hz : z = (l : Int)) (hl : l ≤ n)
    (hd : Nat.ble (d + 1) N = true) (hk : ∀ ao', WO P N E ops rest ⟨(d, .slice ao' (n - l) (c - l)) :: fr, .own e sz ao' (n - l) (c - l) (xs.drop l) :: F, ro⟩ Kn) : WO P N E ops (⟨some d, .slice T x (some lo) none none, ty, pos, af, none⟩ :: rest) ⟨fr, hp, ro⟩ Kn := by
  intro Q hQ a w ok
  have hS : OwnSat w e sz ao n c xs := ok.s.get hs
  refine wo_cut (h := n) (m := c) hx hs (.lo hlo hz hl) ⟨hl, Nat.le_refl _, hS.le, Nat.le_refl _⟩ hd (fun ao' => ?_) Q hQ a w ok
  have : xs.take n = xs := List.take_of_length_le (by rw [hS.len]; exact Nat.le_refl _)
  rw [this]
  exact hk ao'
theorem wo_cut_hi {d e sz by_ n c h : Nat} {ao : Option Addr} {xs : List (List Value)} {hi : Operand} {z : Int} {k : IntKind} [TSl P T e sz by_] (hx : opd fr x = some (.slice ao n c)) (hs : hp.Perm (.own e sz ao n c xs :: F)) (hhi : opd fr hi = some (.int k z)) (hz : z = (h : Int)) (hl : h ≤ n)
    (hd : Nat.ble (d + 1) N = true) (hk : ∀ ao', WO P N E ops rest ⟨(d, .slice ao' h c) :: fr, .own e sz ao' h c (xs.take h) :: F, ro⟩ Kn) : WO P N E ops (⟨some d, .slice T x none (some hi) none, ty, pos, af, none⟩ :: rest) ⟨fr, hp, ro⟩ Kn := by
  intro Q hQ a w ok
  have hS : OwnSat w e sz ao n c xs := ok.s.get hs
  have hle := hS.le
  refine wo_cut (l := 0) (h := h) (m := c) hx hs (.hi hhi hz (by omega)) ⟨Nat.zero_le _, hl, by omega, Nat.le_refl _⟩ hd (fun ao' => ?_) Q hQ a w ok
  simpa using hk ao'
/-- a cut of a segment that is only read -/
theorem wo_cut_ro {d e sz by_ n c l h m b o : Nat} {xs : List (List Value)} {lo hi mx : Option Operand} [TSl P T e sz by_] (hx : opd fr x = some (.slice (some ⟨b, o, none⟩) n c)) (hr : ⟨b, o, sz, xs⟩ ∈ ro) (hb : Bnds fr n c lo hi mx l h m)
    (hlh : l ≤ h ∧ h ≤ m) (hd : Nat.ble (d + 1) N = true)
    (hk : ∀ o', (0 < h - l → o' = elt o l sz) → WO P N E ops rest ⟨(d, .slice (some ⟨b, o', none⟩) (h - l) (m - l)) :: fr, hp, ⟨b, elt o l sz, sz, (xs.take h).drop l⟩ :: ro⟩ Kn) : WO P N E ops (⟨some d, .slice T x lo hi mx, ty, pos, af, none⟩ :: rest) ⟨fr, hp, ro⟩ Kn := by
  intro Q hQ a w ok
  have hv := exec_cut (P := P) (N := N) (T := T) (fr := fr) (x := x) (dst := some d) (ty := ty) (pos := pos) (af := af) (g := none) (w := w) ok.h hx hb
  have e : (if m = l then some (⟨b, o, none⟩ : Addr) else (some (⟨b, o, none⟩ : Addr)).map (·.add (l * sz))) = some ⟨b, if m = l then o else elt o l sz, none⟩ := by
    by_cases c1 : m = l
    · simp [c1]
    · simp [c1, Addr.add_lit, elt]
  rw [e] at hv
  unfold wpList
  rw [if_pos (by simp [Region.wanted])]
  refine .inl ?_
  unfold Oper.wp
  rw [hv]
  refine hk (if m = l then o else elt o l sz) (fun h0 => if_neg (by omega)) Q hQ _ w ⟨ok.h.put (Nat.le_of_ble_eq_true hd) _, ⟨ok.s.frm, ok.s.sat, ok.s.own, ok.s.dis, fun r hr' => ?_, fun r hr' => ?_, fun r hr' => ?_⟩⟩
  · rcases List.mem_cons.1 hr' with rfl | hr'
    · exact Ro.cut (ok.s.rds _ hr)
    · exact ok.s.rds r hr'
  · rcases List.mem_cons.1 hr' with rfl | hr'
    · exact ok.s.rod ⟨b, o, sz, xs⟩ hr
    · exact ok.s.rod r hr'
  · rcases List.mem_cons.1 hr' with rfl | hr'
    · exact ok.s.rok ⟨b, o, sz, xs⟩ hr
    · exact ok.s.rok r hr'
theorem pv_cut_s {l h m : Nat} {s : ByteArray} {lo hi : Option Operand} [hT : TStr P T] (hx : opd fr x = some (.string s)) (hb : Bnds fr s.size s.size lo hi none l h m) : Pv P ⟨fr, hp, ro⟩ (.slice T x lo hi none) (.string (s.extract l h)) :=
  fun N E a w dst ty pos af g ok => by
  simp only [execOp, ok.h.eval hx, Instr.sliceAt, Sem.run_bind, run_underlying hT.h, Result.andThen_ok, Instr.slice, Option.map_none, Option.isSome_none, Bool.false_eq_true, if_false]
  have := hb.run (P := P) (w := w) (isS := false) ok.h (by intro h; cases h)
  simp only [Option.map_none] at this
  simp only [Sem.run_bind, this, Result.andThen_ok, Sem.run_pure]
/-- a made slice -/
theorem wo_make {d e sz by_ l c : Nat} {z : List Value} {zl zc : Int} {k k' : IntKind} [hT : TSl P T e sz by_] [hZ : TZ P e z] (hx : opd fr x = some (.int k zl)) (hl : zl = (l : Int)) (hy : opd fr y = some (.int k' zc)) (hc : zc = (c : Int)) (hlc : l ≤ c) (hb : by_ * c ≤ 140737488355328)
    (hm : c ≤ 4611686018427387904) (hz : Nat.beq z.length sz = true) (ho : allOne z = true) (hd : Nat.ble (d + 1) N = true)
    (h : ∀ b, WO P N E ops rest ⟨(d, .slice (some ⟨b, 0, none⟩) l c) :: fr, .own e sz (some ⟨b, 0, none⟩) l c (List.replicate l z) :: hp, ro⟩ Kn) : WO P N E ops (⟨some d, .makeSlice T x y, ty, pos, af, none⟩ :: rest) ⟨fr, hp, ro⟩ Kn :=
  wo_eff (L := []) (.refl _) hd fun a w ok => by
    subst hl; subst hc
    obtain ⟨i, zz, h1, h2, h3, h4, h5, h6, h7⟩ := sl_und hT.h
    obtain ⟨zv, hzv, hzc⟩ := run_zeroValue (P := P) (T := e) (w := w)
    have hz := Nat.eq_of_beq_eq_true hz
    have hrow : RowsOk sz (List.replicate l z) := fun r hr => by
      obtain ⟨_, rfl⟩ := List.mem_replicate.1 hr
      exact ⟨hz, allOne_mem ho⟩
    have hsz : (sizeOf e).run P w = .ok sz w := by simp [sizeOf, typeInfo, h2, h5, go_sem]
    have hti : (typeInfo e).run P w = .ok i w := by simp [typeInfo, h2, go_sem]
    have hlw : IntKind.i64.wrap (l : Int) = (l : Int) := IntWalk.i64_in _ (by omega)
    have hcw : IntKind.i64.wrap (c : Int) = (c : Int) := IntWalk.i64_in _ (by omega)
    have hbi : ¬ ((by_ : Int) * (c : Int) > 2 ^ 48) := by
      have : (by_ : Int) * (c : Int) = ((by_ * c : Nat) : Int) := by simp
      rw [this]; omega
    refine ⟨.slice (some ⟨w.heap.size, 0, none⟩) l c, [.own e sz (some ⟨w.heap.size, 0, none⟩) l c (List.replicate l z)], w.alloc (.cells ((Array.range (c * sz)).map (fun j => z.toArray[j % sz]!)) e), ?_, ?_, h _⟩
    · simp only [execOp, ok.h.eval hx, ok.h.eval hy, Instr.makeSlice, asInt, asIntOf, Sem.run_bind, run_underlying h1, Result.andThen_ok, Sem.run_pure, hti, hlw, hcw, h6]
      have c1 : ¬ ((decide ((c : Int) < 0) || decide ((by_ : Int) * (c : Int) > 2 ^ 48)) || decide ((l : Int) < 0) || decide ((l : Int) > (c : Int))) = true := by
        simp only [Bool.or_eq_true, decide_eq_true_eq, not_or]
        exact ⟨⟨⟨by omega, hbi⟩, by omega⟩, by omega⟩
      rw [if_neg c1]
      have hask : ∀ b, (askRoom b).run P w = .ok () w := by intro b; unfold askRoom; split <;> rfl
      have hzs : z.toArray.size = sz := by simp [hz]
      by_cases h0 : c * sz = 0
      · simp only [Sem.run_bind, hask, Result.andThen_ok, Int.toNat_natCast, hsz, h0, if_true, Sem.run_pure]
        have hr1 : ∀ f : Nat → Value, (Array.range 0).map f = #[] := fun f => by simp
        simp only [hr1]
        rfl
      · simp only [Sem.run_bind, hask, Result.andThen_ok, Int.toNat_natCast, hsz, h0, if_false, Sem.run_pure, hzv, hzc, hzs]
        rfl
    · refine Sat.one ⟨rfl, rfl, rfl, by simp, fun k hk _ => Below.heap_alloc w _ k hk⟩ ?_ (fun b hb => .inr (by simp only [It.foot, Option.map_some, Option.some.injEq] at hb; omega))
      refine ⟨by simp, hrow, hlc, by unfold maxLen; omega, (fun h => by cases h), fun ad had => ?_⟩
      simp only [Option.some.injEq] at had
      subst had
      refine ⟨rfl, _, heap_alloc_new w _, by simp, (seg_iff hrow.lens).2 ?_⟩
      intro i row hi j u hj
      rw [List.getElem?_replicate] at hi
      split at hi
      · rename_i hil
        simp only [Option.some.injEq] at hi
        subst hi
        have hjl : j < sz := by have := (List.getElem?_eq_some_iff.1 hj).1; omega
        have h8 : (i + 1) * sz ≤ c * sz := Nat.mul_le_mul_right _ (by omega)
        rw [Nat.add_mul] at h8
        have h9 : (i * sz + j) % sz = j := by rw [Nat.mul_comm, Nat.mul_add_mod, Nat.mod_eq_of_lt hjl]
        have h10 : i * sz + j < c * sz := by omega
        simp [h10, h9]
        have := (List.getElem?_eq_some_iff.1 hj)
        obtain ⟨g1, g2⟩ := this
        simp [g1, g2]
      · cases hi
end

end Go.Proofs.Ytlhlidmhlhodiaa
