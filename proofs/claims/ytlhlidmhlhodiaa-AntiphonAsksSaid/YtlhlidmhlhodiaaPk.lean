/-
  Packets of rtcp as values.
-/
import Derived.Test.YtlhlidmhlhodiaaSq
import Derived.Test.YtlhlidmhlhodiaaIf
import Derived.Test.YtlhlidmhlhodiaaSpW
import Derived.Test.YtlhlidmhlhodiaaSpQ
import Derived.Test.YtlhlidmhlhodiaaSpP
import Derived.Test.YtlhlidmhlhodiaaSpL
namespace Go.Proofs.Ytlhlidmhlhodiaa
set_option linter.unusedSimpArgs false
set_option linter.unusedVariables false
open Go.RowKit

structure Bk where
  ss : Int
  lo : Int
  tt : Int
  la : Int
  ji : Int
  ls : Int
  dl : Int
def Bk.ok (b : Bk) : Prop := (0 ≤ b.ss ∧ b.ss ≤ 4294967295) ∧ (0 ≤ b.lo ∧ b.lo ≤ 255) ∧ (0 ≤ b.tt ∧ b.tt ≤ 4294967295) ∧ (0 ≤ b.la ∧ b.la ≤ 4294967295) ∧ (0 ≤ b.ji ∧ b.ji ≤ 4294967295) ∧ (0 ≤ b.ls ∧ b.ls ≤ 4294967295) ∧ (0 ≤ b.dl ∧ b.dl ≤ 4294967295)
def c16 (l : List Int) : List (List Value) := l.map fun z => [.int .u16 z]
def c32 (l : List Int) : List (List Value) := l.map fun z => [.int .u32 z]
def pairV (l : List (Int × Int)) : List (List Value) := l.map fun x => [.int .u16 x.1, .int .u16 x.2]
def ordV (l : List (Int × Int)) : List (List Value) := l.map fun x => [.int .u32 x.1, .int .u8 x.2]
def itmV (l : List (Int × ByteArray)) : List (List Value) := l.map fun x => [.int .u8 x.1, .string x.2]
def blkV (l : List Bk) : List (List Value) := l.map fun b => [.int .u32 b.ss, .int .u8 b.lo, .int .u32 b.tt, .int .u32 b.la, .int .u32 b.ji, .int .u32 b.ls, .int .u32 b.dl]
theorem c16_at {l : List Int} {i : Nat} {z : Int} (h : l[i]? = some z) : (c16 l)[i]? = some [.int .u16 z] := by simp [c16, h]
theorem c32_at {l : List Int} {i : Nat} {z : Int} (h : l[i]? = some z) : (c32 l)[i]? = some [.int .u32 z] := by simp [c32, h]
theorem pairV_at {l : List (Int × Int)} {i : Nat} {x : Int × Int} (h : l[i]? = some x) : (pairV l)[i]? = some [.int .u16 x.1, .int .u16 x.2] := by simp [pairV, h]
theorem ordV_at {l : List (Int × Int)} {i : Nat} {x : Int × Int} (h : l[i]? = some x) : (ordV l)[i]? = some [.int .u32 x.1, .int .u8 x.2] := by simp [ordV, h]
theorem itmV_at {l : List (Int × ByteArray)} {i : Nat} {x : Int × ByteArray} (h : l[i]? = some x) : (itmV l)[i]? = some [.int .u8 x.1, .string x.2] := by simp [itmV, h]
theorem blkV_at {l : List Bk} {i : Nat} {b : Bk} (h : l[i]? = some b) : (blkV l)[i]? = some [.int .u32 b.ss, .int .u8 b.lo, .int .u32 b.tt, .int .u32 b.la, .int .u32 b.ji, .int .u32 b.ls, .int .u32 b.dl] := by simp [blkV, h]
theorem c16_app (a b : List Int) : c16 (a ++ b) = c16 a ++ c16 b := by simp [c16]
theorem c16_len (a : List Int) : (c16 a).length = a.length := by simp [c16]
theorem c32_len (a : List Int) : (c32 a).length = a.length := by simp [c32]
theorem pairV_len (a : List (Int × Int)) : (pairV a).length = a.length := by simp [pairV]
theorem ordV_len (a : List (Int × Int)) : (ordV a).length = a.length := by simp [ordV]
theorem itmV_len (a : List (Int × ByteArray)) : (itmV a).length = a.length := by simp [itmV]
theorem blkV_len (a : List Bk) : (blkV a).length = a.length := by simp [blkV]
inductive Pkt where
  | sender (ss ntp t pk oc : Int) (bl : List Bk)
  | receiver (ss : Int) (bl : List Bk)
  | sdes (ch : List (Int × List (Int × ByteArray)))
  | bye (ss : List Int) (rs : ByteArray)
  | nack (fm to : Int) (ps : List (Int × Int))
  | pli (fm to : Int)
  | fir (fm : Int) (os : List (Int × Int))
  | remb (fm rt : Int) (ss : List Int)
  | other (kd ct : Int) (bd : ByteArray)
def ChV (R : List Ro) (c : Int × List (Int × ByteArray)) (row : List Value) : Prop := ∃ A n k, row = [.int .u32 c.1, .slice A n k] ∧ SQ R 2 A n k (itmV c.2)
def ChsV (R : List Ro) (l : List (Int × List (Int × ByteArray))) (rows : List (List Value)) : Prop := rows.length = l.length ∧ ∀ (i : Nat) c, l[i]? = some c → ∃ row, rows[i]? = some row ∧ ChV R c row
theorem ChV.mono {R R' : List Ro} (hR : ∀ r ∈ R, r ∈ R') {c : Int × List (Int × ByteArray)} {row : List Value} (h : ChV R c row) : ChV R' c row := by
  obtain ⟨A, n, k, h1, h2⟩ := h; exact ⟨A, n, k, h1, h2.mono hR⟩
theorem ChsV.mono {R R' : List Ro} (hR : ∀ r ∈ R, r ∈ R') {l : List (Int × List (Int × ByteArray))} {rows : List (List Value)} (h : ChsV R l rows) : ChsV R' l rows :=
  ⟨h.1, fun i c hc => by obtain ⟨row, h1, h2⟩ := h.2 i c hc; exact ⟨row, h1, h2.mono hR⟩⟩
/-- a packet's value -/
def PkV (R : List Ro) : Pkt → Value → Prop
  | .sender ss ntp t pk oc bl, v => ∃ A n c, v = .iface 267 (.agg #[.int .u32 ss, .int .u64 ntp, .int .u32 t, .int .u32 pk, .int .u32 oc, .slice A n c]) ∧ SQ R 7 A n c (blkV bl)
  | .receiver ss bl, v => ∃ A n c, v = .iface 269 (.agg #[.int .u32 ss, .slice A n c]) ∧ SQ R 7 A n c (blkV bl)
  | .sdes ch, v => ∃ A n c rows, v = .iface 312 (.agg #[.slice A n c]) ∧ SQ R 2 A n c rows ∧ ChsV R ch rows
  | .bye ss rs, v => ∃ A n c, v = .iface 197 (.agg #[.slice A n c, .string rs]) ∧ SQ R 1 A n c (c32 ss)
  | .nack fm to ps, v => ∃ A n c, v = .iface 75 (.agg #[.int .u32 fm, .int .u32 to, .slice A n c]) ∧ SQ R 2 A n c (pairV ps)
  | .pli fm to, v => v = .iface 77 (.agg #[.int .u32 fm, .int .u32 to])
  | .fir fm os, v => ∃ A n c, v = .iface 190 (.agg #[.int .u32 fm, .slice A n c]) ∧ SQ R 2 A n c (ordV os)
  | .remb fm rt ss, v => ∃ A n c, v = .iface 194 (.agg #[.int .u32 fm, .int .u64 rt, .slice A n c]) ∧ SQ R 1 A n c (c32 ss)
  | .other kd ct bd, v => v = .iface 273 (.agg #[.int .u8 kd, .int .u8 ct, .string bd])
theorem PkV.mono {R R' : List Ro} (hR : ∀ r ∈ R, r ∈ R') : ∀ {p : Pkt} {v : Value}, PkV R p v → PkV R' p v
  | .sender .., _, h => by obtain ⟨A, n, c, h1, h2⟩ := h; exact ⟨A, n, c, h1, h2.mono hR⟩
  | .receiver .., _, h => by obtain ⟨A, n, c, h1, h2⟩ := h; exact ⟨A, n, c, h1, h2.mono hR⟩
  | .sdes .., _, h => by obtain ⟨A, n, c, rows, h1, h2, h3⟩ := h; exact ⟨A, n, c, rows, h1, h2.mono hR, h3.mono hR⟩
  | .bye .., _, h => by obtain ⟨A, n, c, h1, h2⟩ := h; exact ⟨A, n, c, h1, h2.mono hR⟩
  | .nack .., _, h => by obtain ⟨A, n, c, h1, h2⟩ := h; exact ⟨A, n, c, h1, h2.mono hR⟩
  | .pli .., _, h => h
  | .fir .., _, h => by obtain ⟨A, n, c, h1, h2⟩ := h; exact ⟨A, n, c, h1, h2.mono hR⟩
  | .remb .., _, h => by obtain ⟨A, n, c, h1, h2⟩ := h; exact ⟨A, n, c, h1, h2.mono hR⟩
  | .other .., _, h => h
theorem PkV.one {R : List Ro} : ∀ {p : Pkt} {v : Value}, PkV R p v → v.oneCell' = true
  | .sender .., _, h => by obtain ⟨A, n, c, rfl, h2⟩ := h; rfl
  | .receiver .., _, h => by obtain ⟨A, n, c, rfl, h2⟩ := h; rfl
  | .sdes .., _, h => by obtain ⟨A, n, c, rows, rfl, h2, h3⟩ := h; rfl
  | .bye .., _, h => by obtain ⟨A, n, c, rfl, h2⟩ := h; rfl
  | .nack .., _, h => by obtain ⟨A, n, c, rfl, h2⟩ := h; rfl
  | .pli .., _, h => by obtain rfl := h; rfl
  | .fir .., _, h => by obtain ⟨A, n, c, rfl, h2⟩ := h; rfl
  | .remb .., _, h => by obtain ⟨A, n, c, rfl, h2⟩ := h; rfl
  | .other .., _, h => by obtain rfl := h; rfl
/-- a packet's numbers lie in their ranges, its lists are not too long -/
def in8 (x : Int) : Prop := 0 ≤ x ∧ x ≤ 255
def in16 (x : Int) : Prop := 0 ≤ x ∧ x ≤ 65535
def in32 (x : Int) : Prop := 0 ≤ x ∧ x ≤ 4294967295
def in64 (x : Int) : Prop := 0 ≤ x ∧ x ≤ 18446744073709551615
def Pkt.ok (m : Nat) : Pkt → Prop
  | .sender ss ntp t pk oc bl => in32 ss ∧ in64 ntp ∧ in32 t ∧ in32 pk ∧ in32 oc ∧ (∀ b ∈ bl, b.ok) ∧ bl.length ≤ m
  | .receiver ss bl => in32 ss ∧ (∀ b ∈ bl, b.ok) ∧ bl.length ≤ m
  | .sdes ch => (∀ c ∈ ch, in32 c.1 ∧ c.2.length ≤ m ∧ ∀ x ∈ c.2, in8 x.1 ∧ x.2.size ≤ m) ∧ ch.length ≤ m
  | .bye ss rs => (∀ x ∈ ss, in32 x) ∧ ss.length ≤ m ∧ rs.size ≤ m
  | .nack fm to ps => in32 fm ∧ in32 to ∧ (∀ x ∈ ps, in16 x.1 ∧ in16 x.2) ∧ ps.length ≤ m
  | .pli fm to => in32 fm ∧ in32 to
  | .fir fm os => in32 fm ∧ (∀ x ∈ os, in32 x.1 ∧ in8 x.2) ∧ os.length ≤ m
  | .remb fm rt ss => in32 fm ∧ in64 rt ∧ (∀ x ∈ ss, in32 x) ∧ ss.length ≤ m
  | .other kd ct bd => in8 kd ∧ in8 ct ∧ bd.size ≤ m
/-- packets in a slice: interface values -/
def PksV (R : List Ro) (l : List Pkt) (vs : List Value) : Prop := vs.length = l.length ∧ ∀ (i : Nat) p, l[i]? = some p → ∃ v, vs[i]? = some v ∧ PkV R p v
def one1 (vs : List Value) : List (List Value) := vs.map fun v => [v]
theorem one1_at {vs : List Value} {i : Nat} {v : Value} (h : vs[i]? = some v) : (one1 vs)[i]? = some [v] := by simp [one1, h]
theorem one1_len (vs : List Value) : (one1 vs).length = vs.length := by simp [one1]
theorem one1_app (a b : List Value) : one1 (a ++ b) = one1 a ++ one1 b := by simp [one1]
theorem PksV.mono {R R' : List Ro} (hR : ∀ r ∈ R, r ∈ R') {l : List Pkt} {vs : List Value} (h : PksV R l vs) : PksV R' l vs :=
  ⟨h.1, fun i p hp => by obtain ⟨v, h1, h2⟩ := h.2 i p hp; exact ⟨v, h1, h2.mono hR⟩⟩
theorem PksV.nil (R : List Ro) : PksV R [] [] := ⟨rfl, fun i p h => by simp at h⟩
theorem PksV.snoc {R : List Ro} {l : List Pkt} {vs : List Value} {p : Pkt} {v : Value} (h : PksV R l vs) (hp : PkV R p v) : PksV R (l ++ [p]) (vs ++ [v]) := by
  refine ⟨by simp [h.1], fun i q hq => ?_⟩
  by_cases hi : i < l.length
  · rw [List.getElem?_append_left hi] at hq
    obtain ⟨u, h1, h2⟩ := h.2 i q hq
    exact ⟨u, by rw [List.getElem?_append_left (by rw [h.1]; exact hi)]; exact h1, h2⟩
  · rw [List.getElem?_append_right (by omega)] at hq
    have : i - l.length = 0 := by
      rcases Nat.eq_zero_or_pos (i - l.length) with h0 | h0
      · exact h0
      · rw [List.getElem?_eq_none (by simp; omega)] at hq; cases hq
    rw [this] at hq
    simp only [List.getElem?_cons_zero, Option.some.injEq] at hq
    subst hq
    exact ⟨v, by rw [List.getElem?_append_right (by rw [h.1]; omega), h.1, this]; rfl, hp⟩
end Go.Proofs.Ytlhlidmhlhodiaa
