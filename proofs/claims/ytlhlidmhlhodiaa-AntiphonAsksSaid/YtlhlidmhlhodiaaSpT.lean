/-
  Sparse frames: texts and bytes.
-/
import Derived.Test.YtlhlidmhlhodiaaSpC
import Derived.Lib.ConvBytes
import Derived.Lib.AppendStr
import Derived.Lib.UnsafeStr
import Derived.Lib.Builder
import Derived.Laws.BytesString
import Derived.Laws.Externs
namespace Go.Proofs.Ytlhlidmhlhodiaa
set_option linter.unusedSimpArgs false
set_option linter.unusedVariables false
open Go.RowKit
def sb (s : ByteArray) (i : Nat) : Int := ((s.data.toList.getD i 0).toNat : Int)
theorem sb_b (s : ByteArray) (i : Nat) : 0 ≤ sb s i ∧ sb s i ≤ 255 := by
  unfold sb
  have := (s.data.toList.getD i 0).toNat_lt
  omega
def brows (s : ByteArray) : List (List Value) := s.data.toList.map fun b => [.int .u8 (b.toNat : Int)]
theorem brows_len (s : ByteArray) : (brows s).length = s.size := by simp [brows]
theorem brows_at {s : ByteArray} {i : Nat} (h : i < s.size) : (brows s)[i]? = some [.int .u8 (sb s i)] := by
  have h' : i < s.data.size := h
  simp [brows, sb, List.getD, Array.getElem?_eq_getElem h']
theorem brows_append (a b : ByteArray) : brows (a ++ b) = brows a ++ brows b := by simp [brows]
theorem brows_ok (s : ByteArray) : RowsOk 1 (brows s) := by
  intro r hr
  obtain ⟨b, _, rfl⟩ := List.mem_map.1 hr
  exact ⟨rfl, by simp; rfl⟩
theorem flat_one {α β : Type} (f : α → β) : ∀ l : List α, (l.map fun b => [f b]).flatten = l.map f
  | [] => rfl
  | x :: l => by simp [flat_one f l]
theorem brows_flat (s : ByteArray) : (brows s).flatten = Lib.strCells s := by
  unfold brows Lib.strCells
  exact flat_one _ _
section
variable {P : Program} {N : Nat} {E : Env} {fr : List (Nat × Value)} {hp : List It} {ro : List Ro} {Kn Kr : St → Prop} {Kx : List (Nat × (St → Prop))} {ops : Array Oper} {rest : List Oper} {dst : Option Tmp} {ty : TypeId} {pos : String} {af : Array Edge} {T : TypeId} {x y : Operand} {v : Value} {F : List It} {t t' : TypeId} {k : IntKind}
theorem pv_index_s {s : ByteArray} {z : Int} [hT : TStr P t] (hx : opd fr x = some (.string s)) (hy : opd fr y = some (.int k z)) (hz : 0 ≤ z ∧ z < s.size) : Pv P ⟨fr, hp, ro⟩ (.index t x y) (.int .u8 (sb s z.toNat)) := fun N E ac w dst ty pos af g ok => by
  have hi : z.toNat < s.size := by omega
  have hi' : z.toNat < s.data.size := hi
  have e : s[z.toNat]? = some s.data[z.toNat] := by
    rw [getElem?_pos s z.toNat hi]; rfl
  simp only [execOp, ok.h.eval hx, ok.h.eval hy]
  simp [Instr.index, asIntOf, run_underlying hT.h, hz.1, e, sb, List.getD, Array.getElem?_eq_getElem hi', go_sem]
theorem pv_index_sn {s : ByteArray} {i : Nat} [hT : TStr P t] (hx : opd fr x = some (.string s)) (hy : opd fr y = some (.int k (i : Int))) (hz : i < s.size) : Pv P ⟨fr, hp, ro⟩ (.index t x y) (.int .u8 (sb s i)) := by
  have := pv_index_s (P := P) (hp := hp) (ro := ro) (t := t) hx hy (by omega)
  rwa [Int.toNat_natCast] at this
/-- a string's bytes, laid into a row that is only read -/
theorem wo_conv_sb {d e by_ : Nat} {s : ByteArray} [hS : TStr P t] [hT : TSl P t' e 1 by_] [he : TInt P e .u8] (hx : opd fr x = some (.string s)) (hd : Nat.ble (d + 1) N = true)
    (h : ∀ b c, s.size ≤ c → WO P N E ops rest ⟨(d, .slice (some ⟨b, 0, none⟩) s.size c) :: fr, hp, ⟨b, 0, 1, brows s⟩ :: ro⟩ Kn) : WO P N E ops (⟨some d, .convert t t' x, ty, pos, af, none⟩ :: rest) ⟨fr, hp, ro⟩ Kn := by
  intro Q hQ a w ok
  unfold wpList
  rw [if_pos (by simp [Region.wanted])]
  refine .inl ?_
  obtain ⟨_, _, h1, _⟩ := sl_und hT.h
  have hr := Lib.run_convert_string_bytes (P := P) w t t' e s hS.h h1 he.h
  unfold Oper.wp
  have e1 : (execOp a.eval ⟨some d, .convert t t' x, ty, pos, af, none⟩).run P w = .ok (.value (.slice (some ⟨w.heap.size, 0, none⟩) s.size (grownCap w s.size 0 e))) (Lib.bytesWorld w e s) := by
    simp only [execOp, ok.h.eval hx, Sem.run_bind, hr, Result.andThen_ok]; rfl
  rw [e1]
  have hS' : Sat w (feet []) [] [] [⟨w.heap.size, 0, 1, brows s⟩] (Lib.bytesWorld w e s) :=
    ⟨⟨rfl, rfl, rfl, by rw [Lib.bytesWorld_size]; omega, fun k hk _ => Lib.bytesWorld_at_old w e s k hk⟩, (by intro x hx; cases hx), (by intro x hx; cases hx), .nil, fun r hr => by
      rcases List.mem_singleton.1 hr with rfl
      refine ⟨brows_ok s, _, _, _, Lib.bytesWorld_at_new w e s, fun j u hj => ?_⟩
      rw [brows_flat] at hj
      simp only [Nat.zero_add]
      unfold Lib.bytesCells
      have hj' : j < s.size := by have := (List.getElem?_eq_some_iff.1 hj).1; rw [Lib.strCells_length] at this; exact this
      rw [Array.getElem?_append_left (by simpa using hj')]
      unfold Lib.strCells at hj
      simpa using hj, (by intro r _ x hx; cases hx), fun r hr => by
      rcases List.mem_singleton.1 hr with rfl
      exact .inr (.inr (Nat.le_refl _))⟩
  exact h _ _ (grownCap_ge w s.size 0 e) Q hQ _ _ ⟨ok.h.put (Nat.le_of_ble_eq_true hd) _, ok.s.step (L := []) (.refl _) blks_mem hS'⟩
/-- bytes as numbers, and their string -/
def bytesOf (ns : List Int) : ByteArray := ns.foldl (fun r n => r.push (UInt8.ofNat n.toNat)) ByteArray.empty
theorem pv_conv_bs {e by_ b o n c : Nat} {ns : List Int} {xs : List (List Value)} {ty' : TypeId} [hT : TSl P t e 1 by_] [he : TInt P e .u8] [hS : TStr P t'] (hx : opd fr x = some (.slice (some ⟨b, o, none⟩) n c)) (hs : hp.Perm (.own ty' 1 (some ⟨b, o, none⟩) n c xs :: F)) (hn : xs = ns.map fun z => [.int .u8 z]) :
    Pv P ⟨fr, hp, ro⟩ (.convert t t' x) (.string (bytesOf ns)) := fun N E ac w dst ty pos af g ok => by
  subst hn
  have hO : OwnSat w ty' 1 (some ⟨b, o, none⟩) n c _ := ok.s.get hs
  obtain ⟨_, _, h1, _⟩ := sl_und hT.h
  have hl : n = ns.length := by have := hO.len; simpa using this.symm
  subst hl
  have hc := run_loadCells_list (P := P) w ⟨b, o, none⟩ (ns.map (Value.int .u8)) (fun j u hj => by
    rw [Addr.add_lit]
    obtain ⟨_, cur, hcur, _, hseg⟩ := hO.at_ _ rfl
    simp only at hcur hseg
    simp only [World.cell?, hcur]
    exact hseg j u (by rw [flat_one]; exact hj))
  rw [List.length_map] at hc
  have hr := run_bytesToString (P := P) w ⟨b, o, none⟩ ns.length c ns hc
  simp only [execOp, ok.h.eval hx]
  simp [convert, run_underlying h1, run_underlying hS.h, run_underlying he.h, hr, bytesOf, go_sem]
theorem run_append_str {w : World} {t u ty e : TypeId} [hT : TSl P t e 1 1] [hu : TStr P u] {ao : Option Addr} {n c : Nat} {xs : List (List Value)} (hS : OwnSat w e 1 ao n c xs) (h0 : ao = none ∨ ∃ b, ao = some ⟨b, 0, none⟩) (s : ByteArray) (hb : n + s.size ≤ 1099511627776) :
    ∃ ao' c' w', (Builtin.append_ #[t, u] ty #[.slice ao n c, .string s]).run P w = .ok (.slice ao' (n + s.size) c') w' ∧ OwnSat w' e 1 ao' (n + s.size) c' (xs ++ brows s) ∧ Frm (feet [It.own e 1 ao n c xs]) w w' ∧
      (∀ b, (It.own e 1 ao' (n + s.size) c' (xs ++ brows s)).foot = some b → b ∈ feet [It.own e 1 ao n c xs] ∨ w.heap.size ≤ b) ∧ ((ao' = none ∧ n + s.size = 0) ∨ ∃ b, ao' = some ⟨b, 0, none⟩) ∧ (ao = none → s.size = 0 → ao' = none) := by
  obtain ⟨i, z, h1, h2, h3, h4, h5, h6, h7⟩ := sl_und hT.h
  have hrows : RowsOk 1 (xs ++ brows s) := fun r hr => by
    rcases List.mem_append.1 hr with hr | hr
    · exact hS.rows r hr
    · exact brows_ok s r hr
  have hlen : (xs ++ brows s).length = n + s.size := by simp [hS.len, brows_len]
  have hfl : (xs ++ brows s).flatten = xs.flatten ++ Lib.strCells s := by rw [List.flatten_append, brows_flat]
  have hxl : xs.flatten.length = n := by rw [flat_len hS.rows.lens, hS.len, Nat.mul_one]
  rcases h0 with rfl | ⟨b, rfl⟩
  · have hc0 := hS.nil rfl
    have hle := hS.le
    subst hc0
    obtain rfl : n = 0 := by omega
    have hx0 : xs = [] := List.eq_nil_of_length_eq_zero hS.len
    subst hx0
    have hz : i.zero = some (.int .u8 0) ∨ True := .inr trivial
    by_cases hm : s.size = 0
    · refine ⟨none, 0, w, ?_, ?_, Frm.refl _ _, (by intro b hb; cases hb), .inl ⟨rfl, by omega⟩, fun _ _ => rfl⟩
      · have hn : Lib.strCells s = [] := List.eq_nil_of_length_eq_zero (by rw [Lib.strCells_length]; exact hm)
        have hf := Lib.run_firstCells_string (P := P) w 1 s
        rw [hm] at hf
        simp [Builtin.append_, run_underlying h1, run_underlying hu.h, sizeOf, typeInfo, h2, h5, Builtin.lenOf, hm, hf]
      · have : brows s = [] := List.eq_nil_of_length_eq_zero (by rw [brows_len]; exact hm)
        rw [this, hm]; exact hS
    · have hn : ¬ (0 + s.size ≤ 0) := by omega
      have h63' : ¬ (9223372036854775807 < (((0 : Nat) : Int) + (s.size : Int))) := by omega
      have hfit : Builtin.nextslicecap (0 + s.size) 0 * i.bytes ≤ 281474976710656 := by rw [h6]; exact growslice_fits (by omega) (by omega)
      have h48' : ¬ (281474976710656 < Builtin.nextslicecap (0 + s.size) 0 * i.bytes) := by omega
      have hf := Lib.run_firstCells_string (P := P) w.drew i.size s
      have hr : (Builtin.append_ #[t, u] ty #[.slice none 0 0, .string s]).run P w = .ok (.slice (some ⟨w.heap.size, 0, none⟩) (0 + s.size) (grownCap w (0 + s.size) 0 e))
          (w.drew.alloc (.cells ((Lib.strCells s).toArray ++ Builtin.zeroCells z.cells (grownCap w (0 + s.size) 0 e - (0 + s.size))) e)) := by
        simp only [Nat.zero_add] at hn h48' ⊢
        simp only [Int.natCast_zero, Int.zero_add] at h63'
        have hfx : (s.data.map fun b => Value.int .u8 (b.toNat : Int)).extract 0 s.size = (Lib.strCells s).toArray := by
          apply Array.ext'
          simp [Lib.strCells]
          exact List.take_of_length_le (Nat.le_of_eq (by first | (simp; done) | (simp; rfl)))
        simp [Builtin.append_, run_underlying h1, run_underlying hu.h, sizeOf, typeInfo, zeroValue, h2, h3, h5, Builtin.lenOf, hm, h63', h48', Question.forced, hf, newRow, grownCap, Builtin.firstCells, hfx]
      refine ⟨_, _, _, hr, ⟨hlen, hrows, grownCap_ge w _ 0 e, grownCap_le_maxLen w _ 0 e (by unfold maxLen; omega), (fun h => by cases h), fun a ha => ?_⟩, ⟨rfl, rfl, rfl, by simp, fun k hk _ => heap_alloc_old w.drew _ hk⟩, fun k hk => .inr (by simp only [It.foot, Option.map_some, Option.some.injEq] at hk; omega), .inr ⟨_, rfl⟩, fun _ h => absurd h hm⟩
      simp only [Option.some.injEq] at ha
      subst ha
      have hge := grownCap_ge w (0 + s.size) 0 e
      refine ⟨rfl, _, heap_alloc_new w.drew _, ?_, fun j v hj => ?_⟩
      · simp only [Array.size_append, List.size_toArray, size_zeroCells, h4, Lib.strCells_length]; omega
      · simp only [List.nil_append, Nat.zero_add] at hj ⊢
        rw [brows_flat] at hj
        rw [Array.getElem?_append_left (by simpa using (List.getElem?_eq_some_iff.1 hj).1)]
        simpa using hj
  · obtain ⟨_, cur, hcur, hfit, hseg⟩ := hS.at_ _ rfl
    simp only [Nat.zero_add, Nat.mul_one] at hcur hfit hseg
    have hle := hS.le
    by_cases hroom : n + s.size ≤ c
    · have hr := Lib.run_append_room_string (P := P) w t u ty e i h1 hu.h h2 h5 b n c cur hcur s hroom (by omega)
      have hset := setRow_heap w b cur (cur.toList.take n ++ Lib.strCells s ++ cur.toList.drop (n + s.size)).toArray e (0, 0) hcur
      refine ⟨_, _, _, hr, ⟨hlen, hrows, hroom, hS.max, (fun h => by cases h), fun a ha => ?_⟩, ⟨rfl, rfl, rfl, by simp, fun k _ hk => setRow_other w b k _ (fun e => hk (by simp [feet, It.foot, e]))⟩, fun k hk => .inl (by simp only [It.foot, Option.map_some, Option.some.injEq] at hk; simp [feet, It.foot, hk]), .inr ⟨_, rfl⟩, fun h => by cases h⟩
      simp only [Option.some.injEq] at ha
      subst ha
      refine ⟨rfl, _, hset, ?_, fun j v hj => ?_⟩
      · simp only [List.size_toArray, List.length_append, List.length_take, List.length_drop, Array.length_toList, Lib.strCells_length]; omega
      · rw [hfl] at hj
        simp only [Nat.zero_add]
        rw [List.getElem?_toArray]
        have hl := Lib.strCells_length s
        have := lay_get (l := cur.toList) (r := Lib.strCells s) (o := n) (j := j) (by rw [hl]; simp; omega)
        rw [hl] at this
        rw [this]
        by_cases c1 : j < n
        · rw [if_pos c1]
          rw [List.getElem?_append_left (by omega)] at hj
          have := hseg j v hj
          simpa using this
        · rw [List.getElem?_append_right (by omega), hxl] at hj
          have hjl := (List.getElem?_eq_some_iff.1 hj).1
          rw [if_neg c1, if_pos (by omega)]
          exact hj
    · have hr := Lib.run_append_grow_string (P := P) w t u ty e i z h1 hu.h h2 h3 ⟨b, 0, none⟩ n c xs.flatten (by rw [h5]; omega) (fun j v hj => by
        rw [Addr.add_lit]; simp only [World.cell?, hcur, Nat.zero_add]; have := hseg j v hj; simpa using this) s (by omega) (by omega) (by rw [h6]; exact growslice_fits (by omega) (by omega))
      have hge := grownCap_ge w (n + s.size) c e
      refine ⟨_, _, _, hr, ⟨hlen, hrows, hge, grownCap_le_maxLen w _ c e (by unfold maxLen; omega), (fun h => by cases h), fun a ha => ?_⟩, ⟨rfl, rfl, rfl, by simp, fun k hk _ => heap_alloc_old w.drew _ hk⟩, fun k hk => .inr (by simp only [It.foot, Option.map_some, Option.some.injEq] at hk; omega), .inr ⟨_, rfl⟩, fun h => by cases h⟩
      simp only [Option.some.injEq] at ha
      subst ha
      refine ⟨rfl, _, heap_alloc_new w.drew _, ?_, fun j v hj => ?_⟩
      · simp only [Array.size_append, List.size_toArray, size_zeroCells, h4, Lib.strCells_length, hxl]; omega
      · rw [hfl] at hj
        simp only [Nat.zero_add]
        have hjl := (List.getElem?_eq_some_iff.1 hj).1
        rw [Array.getElem?_append_left (by simpa using hjl)]
        simpa using hj
theorem wo_app_str {d e n c : Nat} {ao : Option Addr} {xs : List (List Value)} {s : ByteArray} [hT : TSl P t e 1 1] [hu : TStr P t'] (hx : opd fr x = some (.slice ao n c)) (hy : opd fr y = some (.string s))
    (hs : hp.Perm (.own e 1 ao n c xs :: F)) (h0 : ao = none ∨ ∃ b, ao = some ⟨b, 0, none⟩) (hb : n + s.size ≤ 1099511627776) (hd : Nat.ble (d + 1) N = true)
    (h : ∀ ao' c', ((ao' = none ∧ n + s.size = 0) ∨ ∃ b, ao' = some ⟨b, 0, none⟩) → (ao = none → s.size = 0 → ao' = none) → (ao' = none → c' = 0) → WO P N E ops rest ⟨(d, .slice ao' (n + s.size) c') :: fr, .own e 1 ao' (n + s.size) c' (xs ++ brows s) :: F, ro⟩ Kn) : WO P N E ops (⟨some d, .call ⟨.builtin .append, #[x, y], #[t, t']⟩, ty, pos, af, none⟩ :: rest) ⟨fr, hp, ro⟩ Kn :=
  wo_eff (L := [_]) hs hd fun a w ok => by
    have hS : OwnSat w e 1 ao n c xs := ok.s.get hs
    obtain ⟨ao', c', w', h1, h2, h3, h4, h5, h6⟩ := run_append_str (P := P) (t := t) (u := t') (ty := ty) hS h0 s hb
    refine ⟨_, [.own e 1 ao' (n + s.size) c' (xs ++ brows s)], w', ?_, Sat.regrow h3 h2 h4, by simpa [putF] using h ao' c' h5 h6 h2.nil⟩
    simp only [execOp, resolve, List.map_toArray, List.map_cons, List.map_nil, ok.h.eval hx, ok.h.eval hy]
    simp only [Sem.run_bind, Sem.run_pure, Result.andThen_ok, invoke, builtin, h1]
theorem pv_neq_pp {e : TypeId} [h : TPtr P t e] [h2 : TAgg P e 2] {b o : Nat} (hx : opd fr x = some (.pointer (some ⟨b, o, none⟩))) (hy : opd fr y = some (.pointer (some ⟨b, o, none⟩))) : Pv P ⟨fr, hp, ro⟩ (.binOp .neq t x y t') (.bool false) := fun N E ac w dst ty pos af g ok => by
  have h1 : (Op.equal t (.pointer (some ⟨b, o, none⟩)) (.pointer (some ⟨b, o, none⟩))).run P w = .ok true w := by
    show Sem.run P (Op.equalIn (9999 + 1) t _ _) w = _
    rw [Op.equalIn]
    simp only [Sem.run_bind, run_underlying h.h, Result.andThen_ok]
    simp [run_sizeOf_agg (P := P) (T := e) (n := 2), sameAddr, go_sem]
  simp only [execOp, ok.h.eval hx, ok.h.eval hy]
  simp [eqGuard, binOp, h1, go_sem]
class TUns (P : Program) (T : TypeId) : Prop where h : P.underlying T = some .unsafePointer
theorem pv_tou {e b o : Nat} {l : List Value} {tt : TypeId} {fz : Nat × Nat} [h1 : TPtr P t e] [h2 : TUns P t'] [h3 : TAgg P e 2] (hx : opd fr x = some (.pointer (some ⟨b, o, none⟩))) (hs : hp.Perm (.ob b (.cells l.toArray tt fz) :: F)) (ho : Nat.ble (o + 1) l.length = true) :
    Pv P ⟨fr, hp, ro⟩ (.convert t t' x) (.pointer (some ⟨b, o, none⟩)) := fun N E ac w dst ty pos af g ok => by
  obtain ⟨d, i, h4, h5, h6, _⟩ := agg_und h3.h
  have hc : w.heap[b]? = some (.cells l.toArray tt fz) := ok.s.get hs
  have := Lib.run_to_unsafe (P := P) (w := w) (e := tt) (cells := l.length) ⟨b, o, none⟩ h1.h h2.h h5 (by omega) (by simp [World.shape?, hc]) (Nat.le_of_ble_eq_true ho)
  simp only [execOp, ok.h.eval hx, Sem.run_bind, this, Result.andThen_ok]; rfl
theorem pv_fromu {e b o : Nat} {l : List Value} {tt : TypeId} {fz : Nat × Nat} [h1 : TUns P t] [h2 : TPtr P t' e] [h3 : TAgg P e 2] (hx : opd fr x = some (.pointer (some ⟨b, o, none⟩))) (hs : hp.Perm (.ob b (.cells l.toArray tt fz) :: F)) (ho : liesAt P P.depth tt (l.length / P.cellsOf tt) o e 1 = true) :
    Pv P ⟨fr, hp, ro⟩ (.convert t t' x) (.pointer (some ⟨b, o, none⟩)) := fun N E ac w dst ty pos af g ok => by
  obtain ⟨d, i, h4, h5, h6, _⟩ := agg_und h3.h
  have hc : w.heap[b]? = some (.cells l.toArray tt fz) := ok.s.get hs
  have := Lib.run_from_unsafe (P := P) (w := w) (e := tt) (cells := l.length) ⟨b, o, none⟩ h1.h h2.h h5 (by simp [World.shape?, hc]) ho
  simp only [execOp, ok.h.eval hx, Sem.run_bind, this, Result.andThen_ok]; rfl
theorem pv_ext {f : FuncId} {fn : Func} {e : Array Value → Sem Value} {ats : Array TypeId} (hf : P.funcs[f]? = some fn) (hname : (fn.name == "runtime.NumGoroutine") = false) (hb : fn.body.isNone = true) (hn : Extern.findNext fn = none) (he : Extern.find fn = some e)
    (hx : opd fr x = some v) (hv : ∀ w, (e #[v]).run P w = .ok v w) : Pv P ⟨fr, hp, ro⟩ (.call ⟨.value (.func f), #[x], ats⟩) v := fun N E ac w dst ty pos af g ok => by
  have h1 := run_callFunc_extern (P := P) hf hname hb hn he #[v] w
  rw [hv w] at h1
  simp only [execOp, resolve, List.map_toArray, List.map_cons, List.map_nil, ok.h.eval hx]
  simp [Deferred.ofValue, Act.eval, invoke, h1, go_sem]
theorem pv_sld {b o n c : Nat} {ats : Array TypeId} (hx : opd fr x = some (.slice (some ⟨b, o, none⟩) n c)) (hc : 0 < c) : Pv P ⟨fr, hp, ro⟩ (.call ⟨.builtin .unsafeSliceData, #[x], ats⟩) (.pointer (some ⟨b, o, none⟩)) := fun N E ac w dst ty pos af g ok => by
  have := Lib.run_unsafeSliceData_row (P := P) w ats ty ⟨b, o, none⟩ n c (by omega)
  simp only [execOp, resolve, List.map_toArray, List.map_cons, List.map_nil, ok.h.eval hx]
  simp [invoke, builtin, this, go_sem]
theorem pv_sld0 {ats : Array TypeId} (hx : opd fr x = some (.slice none 0 0)) : Pv P ⟨fr, hp, ro⟩ (.call ⟨.builtin .unsafeSliceData, #[x], ats⟩) (.pointer none) := fun N E ac w dst ty pos af g ok => by
  have := Lib.run_unsafeSliceData_nil (P := P) w ats ty 0 0
  simp only [execOp, resolve, List.map_toArray, List.map_cons, List.map_nil, ok.h.eval hx]
  simp [invoke, builtin, this, go_sem]
theorem pv_ustr0 {t1 t2 : TypeId} (hx : opd fr x = some (.pointer none)) (hy : opd fr y = some (.int .i64 0)) : Pv P ⟨fr, hp, ro⟩ (.call ⟨.builtin .unsafeString, #[x, y], #[t1, t2]⟩) (.string .empty) := fun N E ac w dst ty pos af g ok => by
  have := Lib.run_unsafeString_none (P := P) w t1 t2 ty none
  simp only [execOp, resolve, List.map_toArray, List.map_cons, List.map_nil, ok.h.eval hx, ok.h.eval hy]
  simp [invoke, builtin, this, go_sem]
/-- the bytes of a buffer, as a string; the buffer is nobody's any more -/
theorem wo_ustr {d e b c : Nat} {s : ByteArray} {t1 t2 : TypeId} [h1 : TPtr P t1 e] [h2 : TInt P e .u8] (hc : P.cellsOf e = 1) (hx : opd fr x = some (.pointer (some ⟨b, 0, none⟩))) (hy : opd fr y = some (.int .i64 s.size)) (hs : hp.Perm (.own e 1 (some ⟨b, 0, none⟩) s.size c (brows s) :: F)) (h0 : 0 < s.size) (hd : Nat.ble (d + 1) N = true)
    (h : WO P N E ops rest ⟨(d, .string s) :: fr, F, ro⟩ Kn) : WO P N E ops (⟨some d, .call ⟨.builtin .unsafeString, #[x, y], #[t1, t2]⟩, ty, pos, af, none⟩ :: rest) ⟨fr, hp, ro⟩ Kn :=
  wo_eff (L := [_]) hs hd fun a w ok => by
    have hO : OwnSat w e 1 (some ⟨b, 0, none⟩) s.size c (brows s) := ok.s.get hs
    obtain ⟨_, cur, hcur, hfit, hseg⟩ := hO.at_ _ rfl
    simp only at hcur hfit hseg
    have hle := hO.le
    have hm := hO.max
    have hl : s.data.toList.length = s.size := by first | (simp; done) | (simp; rfl)
    have hr := Lib.run_unsafeString_row (P := P) w t1 t2 ty e h1.h hc b cur.size (by simp [World.shape?, hcur]) s.data.toList (by intro e0; rw [e0] at hl; simp at hl; omega) (by rw [hl]; omega) (by rw [hl]; unfold maxLen at hm; omega)
      (fun j v hj => by
        rw [Addr.add_lit]
        simp only [World.cell?, hcur]
        refine hseg j _ ?_
        rw [brows_flat]
        simp [Lib.strCells] at hj ⊢
        exact ⟨v, hj, rfl⟩)
    rw [hl] at hr
    refine ⟨.string s, [], w.freeze ⟨b, 0, none⟩ s.size, ?_, ?_, by simpa [putF] using h⟩
    · simp only [execOp, resolve, List.map_toArray, List.map_cons, List.map_nil, ok.h.eval hx, ok.h.eval hy]
      simp [invoke, builtin, hr, go_sem]
    · have hfz := Lib.below_freeze (B := 0) (Below.refl 0 w) (p := ⟨b, 0, none⟩) (Nat.zero_le _) s.size
      refine ⟨⟨?_, ?_, ?_, ?_, fun k hk hn => ?_⟩, (by intro x hx; cases hx), (by intro x hx; cases hx), .nil, (by intro r hr; cases hr), (by intro r hr; cases hr), (by intro r hr; cases hr)⟩
      · unfold World.freeze; split <;> rfl
      · unfold World.freeze; split <;> rfl
      · unfold World.freeze; split <;> rfl
      · unfold World.freeze; split <;> simp
      · have hne : b ≠ k := fun e0 => hn (by simp [feet, It.foot, e0])
        unfold World.freeze
        split
        · rfl
        · simp [Array.getElem?_modify, hne]
theorem pv_cs_lo {s : ByteArray} {z : Int} {lo : Operand} [hT : TStr P T] (hx : opd fr x = some (.string s)) (hl : opd fr lo = some (.int k z)) (h : 0 ≤ z ∧ z ≤ s.size) : Pv P ⟨fr, hp, ro⟩ (.slice T x (some lo) none none) (.string (s.extract z.toNat s.size)) :=
  pv_cut_s hx (.lo hl (by omega) (by omega))
theorem pv_cs_hi {s : ByteArray} {z : Int} {hi : Operand} [hT : TStr P T] (hx : opd fr x = some (.string s)) (hl : opd fr hi = some (.int k z)) (h : 0 ≤ z ∧ z ≤ s.size) : Pv P ⟨fr, hp, ro⟩ (.slice T x none (some hi) none) (.string (s.extract 0 z.toNat)) :=
  pv_cut_s hx (.hi hl (by omega) (by omega))
end
end Go.Proofs.Ytlhlidmhlhodiaa
