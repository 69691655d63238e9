/-
  Texts of this proof, laid together (part 4 of 6).
-/
import Derived.Test.YteaccbbmphcmnaaB3
/-
  Package rtcp: Text, by what each packet writes; Pli and Nack.
-/
namespace Go.Proofs.Yteaccbbmphcmnaa
set_option linter.unusedSimpArgs false
set_option linter.unusedVariables false
open Go.RowKit
attribute [local irreducible] Pv WO WC Fn
set_option maxRecDepth 100000
attribute [local irreducible] ByteArray.extract

def HdC (v : Value) (kd ct : Int) : Prop := ∃ T w f, v = .iface T w ∧ TInv Try.prog T "Head" f ∧ HasBody Try.prog f ∧ Fn Try.prog f #[w] [] [] (fun u L' R' => u = .tuple #[.int .u8 kd, .int .u8 ct] ∧ L' = [] ∧ R' = [])
def PtC (R : List Ro) (v : Value) (tx : ByteArray) : Prop := ∀ g, Fn Try.prog 29 #[.pointer (some ⟨g, 0, none⟩), v] (wrH g none none 0 E0) R (fun u L' R' => ∃ p ao c, u = .tuple #[] ∧ L' = wrH g p ao c tx ∧ R' = [] ∧ WOk g p ao c tx)
theorem wo_head {N : Nat} {E : Env} {fr : List (Nat × Value)} {hp : List It} {ro : List Ro} {x : Operand} {v : Value} {kd ct : Int} {Kn : St → Prop} {ops : Array Oper} {rest : List Oper} {dst : Option Tmp} {ty : TypeId} {pos : String} {af : Array Edge} {ats : Array TypeId}
    (hx : opd fr x = some v) (hH : HdC v kd ct) (hd : dstOk dst N = true) (h : WO Try.prog N E ops rest ⟨putF dst (.tuple #[.int .u8 kd, .int .u8 ct]) fr, hp, ro⟩ Kn) :
    WO Try.prog N E ops (⟨dst, .call ⟨.invoke x "Head", #[], ats⟩, ty, pos, af, none⟩ :: rest) ⟨fr, hp, ro⟩ Kn := by
  obtain ⟨T, w, f, rfl, hT, hB, hF⟩ := hH
  haveI := hB
  refine wo_inv (l := []) (vs := []) (F := hp) hx hT hF rfl (.refl _) (fun r hr => by cases hr) hd ?_
  rintro v L' R' ⟨rfl, rfl, rfl⟩ H hH RR hR
  subst hH
  subst hR
  exact h
theorem zb_pad (s : ByteArray) : (s ++ zb (padJ s.size 4)).size % 4 = 0 := by
  rw [ByteArray.size_append, zb_size]; exact padJ_eq _ (by omega)
/-- a text, filled up to words of four bytes -/
def pad4 (s : ByteArray) : ByteArray := s ++ zb (padJ s.size 4)
theorem pad4_size (s : ByteArray) : (pad4 s).size ≤ s.size + 3 := by
  unfold pad4
  rw [ByteArray.size_append, zb_size]
  have := padJ_lt s.size (T := 4) (by omega)
  omega
theorem pad4_mod (s : ByteArray) : (pad4 s).size % 4 = 0 := zb_pad s
theorem pad4_id {s : ByteArray} (h : s.size % 4 = 0) : pad4 s = s := by
  unfold pad4 padJ
  rw [h]
  show s ++ E0 = s
  exact append_E0 s
def hd4 (kd ct : Int) (n : Nat) : ByteArray := b1 (128 + ct % 32) ++ b1 kd ++ numS 2 ((n / 4 : Nat) : Int)
/-- a packet's bytes -/
def one4 (x : Int × Int × ByteArray) : ByteArray := hd4 x.1 x.2.1 (pad4 x.2.2).size ++ pad4 x.2.2
def all4 : List (Int × Int × ByteArray) → ByteArray
  | [] => E0
  | x :: l => one4 x ++ all4 l
theorem all4_app : ∀ a b, all4 (a ++ b) = all4 a ++ all4 b
  | [], b => (E0_append _).symm
  | x :: a, b => by
    show one4 x ++ all4 (a ++ b) = (one4 x ++ all4 a) ++ all4 b
    rw [all4_app a b, ByteArray.append_assoc]
theorem all4_take {l : List (Int × Int × ByteArray)} {j : Nat} {x : Int × Int × ByteArray} (h : l[j]? = some x) : all4 (l.take (j + 1)) = all4 (l.take j) ++ one4 x := by
  rw [List.take_add_one, h, all4_app]
  show all4 (l.take j) ++ (one4 x ++ E0) = _
  rw [append_E0]
theorem one4_size (x : Int × Int × ByteArray) : (one4 x).size = 4 + (pad4 x.2.2).size := by
  unfold one4 hd4
  simp only [ByteArray.size_append, b1_size, numS_size]
theorem all4_size : ∀ {l : List (Int × Int × ByteArray)} {m : Nat}, (∀ x ∈ l, x.2.2.size ≤ m) → (all4 l).size ≤ (m + 7) * l.length
  | [], m, _ => Nat.le_refl _
  | x :: l, m, h => by
    have h1 := h x (.head _)
    have h2 := all4_size (fun y hy => h y (.tail _ hy))
    have h3 := one4_size x
    have h4 := pad4_size x.2.2
    show (one4 x ++ all4 l).size ≤ _
    rw [ByteArray.size_append, List.length_cons, Nat.mul_add]; omega
theorem or_128 {a : Int} : 0 ≤ a ∧ a ≤ 255 → bits .or .u8 128 (bits .and .u8 a 31) = 128 + a % 32 := u8_all (p := fun a => bits .or .u8 128 (bits .and .u8 a 31) = 128 + a % 32) (by decide +kernel)
theorem brows_two' {x y : Int} (hx : 0 ≤ x ∧ x ≤ 255) (hy : 0 ≤ y ∧ y ≤ 255) : [[Value.int .u8 x], [.int .u8 y]] = brows (b1 x ++ b1 y) := by
  have e1 := b1_rows hx
  have e2 := b1_rows hy
  have : brows (b1 x ++ b1 y) = brows (b1 x) ++ brows (b1 y) := by simp [brows]
  rw [this, e1, e2]; rfl
set_option maxHeartbeats 16000000 in
theorem tText (l : List (Int × Int × ByteArray)) (vs : List Value) (A : Option Addr) (n c : Nat) (R : List Ro) (hS : SQ R 1 A n c (one1 vs)) (hn : vs.length = l.length) (hl : l.length ≤ 1000) (hz : ∀ x ∈ l, x.2.2.size ≤ 200000) (hr : ∀ x ∈ l, in8 x.1 ∧ in8 x.2.1)
    (hH : ∀ (i : Nat) x v, l[i]? = some x → vs[i]? = some v → HdC v x.1 x.2.1 ∧ PtC R v x.2.2) :
    Fn Try.prog 11 #[.slice A n c] [] R (fun v L' R' => v = .string (all4 l) ∧ L' = [] ∧ R' = []) := by
  have hnl : n = l.length := by rw [← hS.len, one1_len, hn]
  subst hnl
  refine fn_intro Try.func11 rfl Try.ntmps11 rfl (fun E => ?_)
  (repeat (first | ((first | (apply wo_v; rfl) ); (· first | (apply pv_ev; rfl) | (apply g_bi; first | (apply pv_len_sl; rfl) ) )) | apply wo_nil | apply wc_seq | apply wc_region | (apply wo_alloc; rfl; intro bx) ))
  obtain ⟨go, hgo⟩ : ∃ g, g = bx := ⟨_, rfl⟩
  subst hgo
  refine wc_own0 5 1 ?_
  refine wc_join0 (fun st => ∃ p ao c', st = ⟨[(3, .pointer (some ⟨go, 0, none⟩))], wrH go p ao c' (all4 l), R⟩ ∧ WOk go p ao c' (all4 l)) ?_ ?_
  · refine wc_block ?_
    refine wc_loop' (fun q st => ∃ (i : Nat) (p ao : Option Addr) (c' : Nat) (s : ByteArray), q = l.length - i ∧ i ≤ l.length ∧ s = all4 (l.take i) ∧ WOk go p ao c' s ∧ st = ⟨[(3, .pointer (some ⟨go, 0, none⟩)), (9, .slice A l.length c), (10, .int .i64 l.length), (11, .int .i64 i)], wrH go p ao c' s, R⟩) ⟨0, none, none, 0, E0, rfl, Nat.zero_le _, rfl, ⟨.inl rfl, .inl ⟨rfl, rfl, rfl⟩⟩, rfl⟩ (wk_mk (by (repeat (first | apply wkf_nil | (apply wkf_cons; rfl))); done) (by (repeat (first | apply sub_nil | (apply sub_cons; (· (repeat (first | apply sel_here | apply sel_there)))))); done) (by first | exact fun _ h => h | (intro r hr; cases hr; done) | (simp; done) | exact fun _ h => List.mem_append_left _ h | (intro r hr; simp [hr]; done))) ?_
    rintro q st ⟨i, p, ao, c', s, rfl, hi, hs, hw, rfl⟩
    by_cases hlt : i < l.length
    · obtain ⟨x, hx⟩ : ∃ x, l[i]? = some x := ⟨_, List.getElem?_eq_getElem hlt⟩
      obtain ⟨v, hv⟩ : ∃ v, vs[i]? = some v := ⟨_, List.getElem?_eq_getElem (by omega)⟩
      obtain ⟨hHd, hPt⟩ := hH i x v hx hv
      have hrow := one1_at hv
      have hxm := List.mem_of_getElem? hx
      have hxz := hz x hxm
      obtain ⟨hk, hc⟩ := hr x hxm
      have hnx := all4_take hx
      rw [← hs] at hnx
      have hsz : s.size ≤ 200007 * i := by
        have := all4_size (l := l.take i) (m := 200000) (fun y hy => hz y (List.mem_of_mem_take hy))
        rw [← hs, List.length_take] at this
        have h2 : (200000 + 7) * min i l.length ≤ 200007 * i := Nat.mul_le_mul_left _ (by omega)
        omega
      obtain ⟨kd, ct, tx⟩ := x
      dsimp only at hHd hPt hxz hk hc hnx
      obtain ⟨a0, o0, rfl, hmem⟩ := hS.pos (by omega)
      (repeat (first | ((first | (apply wo_v; rfl) ); (· first | (apply pv_ev; rfl) )) | apply wo_nil | apply wc_seq | apply wc_region | apply wc_skip | (apply wc_true; rfl) | (apply wc_false; rfl) | (apply a_dec_t; rfl; (· first | assumption | omega)) ))
      refine wc_block ?_
      (repeat (first | ((first | (apply wo_v; rfl) ); (· first | (apply pv_ev; rfl) | (apply g_load; first | (apply pv_ld; rfl; (· (repeat (first | apply sel_there))); rfl) | (apply pv_ld_ownf; rfl; (· (repeat (first | fail ))); (· assumption); rfl) | (apply pv_ld_own1; rfl; (· (repeat (first | apply sel_there))); (· assumption)) | (apply pv_ld_rof; rfl; (· (first | assumption )); (· assumption); rfl) | (apply pv_ld_ro1; rfl; (· (first | assumption )); (· assumption)) ) | (apply g_idx; first | (apply pv_idx; rfl; rfl; omega) ) )) | apply wo_nil | apply wc_seq | apply wc_region ))
      refine wo_head rfl hHd rfl ?_
      (repeat (first | ((first | (apply wo_v; rfl) ); (· first | (apply pv_ev; rfl) )) | apply wo_nil | apply wc_seq | apply wc_region | (apply wo_alloc; rfl; intro bx) ))
      obtain ⟨gw, hgw⟩ : ∃ g, g = bx := ⟨_, rfl⟩
      subst hgw
      refine wo_own0 5 1 ?_
      (refine wo_call (hPt gw) rfl (by (repeat (first | apply sub_nil | (apply sub_cons; (· (repeat (first | apply sel_here | apply sel_there)))))); done) (by first | exact fun _ h => h | (intro r hr; cases hr; done) | (simp; done) | exact fun _ h => List.mem_append_left _ h | (intro r hr; simp [hr]; done)) rfl ?_; rintro v L' R' ⟨p1, ao1, c1, rfl, rfl, rfl, hw1⟩ H' hH RR hR; simp only [List.cons_append, List.nil_append] at hH hR; subst hH; have hR := hR.symm; subst hR)
      (repeat (first | ((first | (apply wo_v; rfl) ); (· first | (apply pv_ev; rfl) )) | apply wo_nil | apply wc_seq | apply wc_region ))
      have hpad := wPad gw c1 p1 ao1 tx 4 4 rfl (by omega) hw1 (by omega)
      rw [show tx ++ zb (padJ tx.size 4) = pad4 tx from rfl] at hpad
      have hpz := pad4_size tx
      rw [show one4 (kd, ct, tx) = hd4 kd ct (pad4 tx).size ++ pad4 tx from rfl] at hnx
      generalize pad4 tx = px at hpad hpz hnx
      (refine wo_call (hpad) rfl (by (repeat (first | apply sub_nil )); done) (by first | exact fun _ h => h | (intro r hr; cases hr; done) | (simp; done) | exact fun _ h => List.mem_append_left _ h | (intro r hr; simp [hr]; done)) rfl ?_; rintro v L' R' ⟨p2, ao2, c2, rfl, rfl, rfl, hw2⟩ H' hH RR hR; simp only [List.cons_append, List.nil_append] at hH hR; subst hH; have hR := hR.symm; subst hR)
      (repeat (first | ((first | (apply wo_v; rfl) ); (· first | (apply pv_ev; rfl) | (apply g_bin; first | (apply pv_and; rfl; rfl) | (apply (a_or 4); rfl; rfl; infer_instance; rfl; omega) | (apply (a_or 5); rfl; rfl; infer_instance; rfl; omega) | (apply (a_or 6); rfl; rfl; infer_instance; rfl; omega) | (apply (a_or 7); rfl; rfl; infer_instance; rfl; omega) | (apply (a_or 8); rfl; rfl; infer_instance; rfl; omega) | (apply (a_or 16); rfl; rfl; infer_instance; rfl; omega) | (apply (a_or 24); rfl; rfl; infer_instance; rfl; omega) | (apply (a_or 32); rfl; rfl; infer_instance; rfl; omega) | (apply pv_or; rfl; rfl) ) )) | apply wo_nil | apply wc_region | (apply wo_bsl; (· (repeat (first | apply Rws'.nil | (apply Rws'.one; rfl; rfl; rfl) ))); rfl; rfl; rfl; rfl; intro bx) ))
      have hct := or_128 hc
      have hk0 : 0 ≤ 128 + ct % 32 ∧ 128 + ct % 32 ≤ 255 := by omega
      have z1 : (b1 (128 + ct % 32) ++ b1 kd).size = 2 := by rw [ByteArray.size_append, b1_size, b1_size]
      rw [hct, brows_two' hk0 hk]
      have hW1 := fun bl => wU8 go c' bl 2 p ao s (b1 (128 + ct % 32) ++ b1 kd) hw (by rw [z1]; omega) (by rw [z1]; omega)
      simp only [z1] at hW1
      obtain ⟨s1, hs1⟩ : ∃ s1, s ++ (b1 (128 + ct % 32) ++ b1 kd) = s1 := ⟨_, rfl⟩
      have zs1 : s1.size = s.size + 2 := by rw [← hs1, ByteArray.size_append, z1]
      rw [hs1] at hW1
      (refine wo_call (hW1 _) rfl (by (repeat (first | apply sub_nil | (apply sub_cons; (· (repeat (first | apply sel_here | apply sel_there)))))); done) (by first | exact fun _ h => h | (intro r hr; cases hr; done) | (simp; done) | exact fun _ h => List.mem_append_left _ h | (intro r hr; simp [hr]; done)) rfl ?_; rintro v L' R' ⟨p3, ao3, c3, rfl, rfl, rfl, hw3⟩ H' hH RR hR; simp only [List.cons_append, List.nil_append] at hH hR; subst hH; have hR := hR.symm; subst hR)
      (repeat (first | ((first | (apply wo_v; rfl) ); (· first | (apply pv_ev; rfl) )) ))
      (refine wo_call (wLen gw c2 p2 ao2 px.size) rfl (by (repeat (first | apply sub_nil | (apply sub_cons; (· (repeat (first | apply sel_here | apply sel_there)))))); done) (by first | exact fun _ h => h | (intro r hr; cases hr; done) | (simp; done) | exact fun _ h => List.mem_append_left _ h | (intro r hr; simp [hr]; done)) rfl ?_; rintro v L' R' ⟨rfl, rfl, rfl⟩ H' hH RR hR; simp only [List.cons_append, List.nil_append] at hH hR; subst hH; have hR := hR.symm; subst hR)
      have ed : ((px.size / 4 : Nat) : Int) = (px.size : Int) / 4 := by omega
      have hW2 := fun bl => wU16 go c3 bl 1 p3 ao3 s1 [(px.size : Int) / 4] (by intro y hy; rcases List.mem_singleton.1 hy with rfl; omega) (by simp) hw3 (by omega)
      rw [numsS_one, ← ed] at hW2
      obtain ⟨s2, hs2⟩ : ∃ s2, s1 ++ numS 2 ((px.size / 4 : Nat) : Int) = s2 := ⟨_, rfl⟩
      have zs2 : s2.size = s.size + 4 := by rw [← hs2, ByteArray.size_append, numS_size, zs1]
      rw [hs2] at hW2
      (repeat (first | ((first | (apply wo_v; rfl) ); (· first | (apply pv_ev; rfl) | (apply g_bin; first | (apply a_quo; rfl; rfl; infer_instance; omega) ) | (apply g_conv; first | (apply a_conv; rfl; infer_instance; infer_instance; infer_instance; omega) ) )) | (apply wo_bsl; (· (repeat (first | apply Rws'.nil | (apply Rws'.one; rfl; rfl; rfl) ))); rfl; rfl; rfl; rfl; intro bx) ))
      rw [← ed]
      (refine wo_call (hW2 _) rfl (by (repeat (first | apply sub_nil | (apply sub_cons; (· (repeat (first | apply sel_here | apply sel_there)))))); done) (by first | exact fun _ h => h | (intro r hr; cases hr; done) | (simp; done) | exact fun _ h => List.mem_append_left _ h | (intro r hr; simp [hr]; done)) rfl ?_; rintro v L' R' ⟨p4, ao4, c4, rfl, rfl, rfl, hw4⟩ H' hH RR hR; simp only [List.cons_append, List.nil_append] at hH hR; subst hH; have hR := hR.symm; subst hR)
      (repeat (first | ((first | (apply wo_v; rfl) ); (· first | (apply pv_ev; rfl) )) ))
      (refine wo_call (wText gw c2 p2 ao2 px hw2) rfl (by (repeat (first | apply sub_nil | (apply sub_cons; (· (repeat (first | apply sel_here | apply sel_there)))))); done) (by first | exact fun _ h => h | (intro r hr; cases hr; done) | (simp; done) | exact fun _ h => List.mem_append_left _ h | (intro r hr; simp [hr]; done)) rfl ?_; rintro v L' R' ⟨rfl, rfl, rfl⟩ H' hH RR hR; simp only [List.cons_append, List.nil_append] at hH hR; subst hH; have hR := hR.symm; subst hR)
      (repeat (first | ((first | (apply wo_v; rfl) ); (· first | (apply pv_ev; rfl) )) | (apply wo_bsl; (· (repeat (first | apply Rws'.nil | (apply Rws'.one; rfl; rfl; rfl) ))); rfl; rfl; rfl; rfl; intro bx) ))
      have hW3 := fun bl => wPut go c4 bl 1 p4 ao4 s2 [px] (by intro y hy; rcases List.mem_singleton.1 hy with rfl; omega) (by simp) hw4 (by omega)
      rw [show catS [px] = px from append_E0 px] at hW3
      have hfin : s2 ++ px = all4 (l.take (i + 1)) := by
        rw [hnx, ← hs2, ← hs1]
        unfold hd4
        simp only [ByteArray.append_assoc]
      rw [hfin] at hW3
      (refine wo_call (hW3 _) rfl (by (repeat (first | apply sub_nil | (apply sub_cons; (· (repeat (first | apply sel_here | apply sel_there)))))); done) (by first | exact fun _ h => h | (intro r hr; cases hr; done) | (simp; done) | exact fun _ h => List.mem_append_left _ h | (intro r hr; simp [hr]; done)) rfl ?_; rintro v L' R' ⟨p5, ao5, c5, rfl, rfl, rfl, hw5⟩ H' hH RR hR; simp only [List.cons_append, List.nil_append] at hH hR; subst hH; have hR := hR.symm; subst hR)
      (repeat (first | ((first | (apply wo_v; rfl) ); (· first | (apply pv_ev; rfl) | (apply g_bin; first | (apply a_add; rfl; rfl; infer_instance; omega) ) )) | apply wo_nil | apply wc_region ))
      exact loop_end ⟨i + 1, p5, ao5, c5, _, rfl, by omega, rfl, hw5, rfl⟩ (by omega) (wk_mk (by (repeat (first | apply wkf_nil | (apply wkf_cons; rfl))); done) (by (repeat (first | apply sub_nil )); done) (by first | exact fun _ h => h | (intro r hr; cases hr; done) | (simp; done) | exact fun _ h => List.mem_append_left _ h | (intro r hr; simp [hr]; done)))
    · have e : i = l.length := by omega
      subst e
      rw [List.take_length] at hs
      subst hs
      (repeat (first | ((first | (apply wo_v; rfl) ); (· first | (apply pv_ev; rfl) )) | apply wo_nil | apply wc_seq | apply wc_region | (apply wc_exit; rfl) | (apply wc_true; rfl) | (apply wc_false; rfl) | (apply a_dec_t; rfl; (· first | assumption | omega)) | (apply a_dec_f; rfl; (· first | assumption | omega)) ))
      exact cut_end ⟨p, ao, c', rfl, hw⟩ (wk_mk (by (repeat (first | apply wkf_nil | (apply wkf_cons; rfl))); done) (by (repeat (first | apply sub_nil )); done) (by first | exact fun _ h => h | (intro r hr; cases hr; done) | (simp; done) | exact fun _ h => List.mem_append_left _ h | (intro r hr; simp [hr]; done)))
  rintro st ⟨p, ao, c', rfl, hw⟩
  (repeat (first | ((first | (apply wo_v; rfl) ); (· first | (apply pv_ev; rfl) )) | apply wc_seq | apply wc_region ))
  (refine wo_call (wText go c' p ao _ hw) rfl (by (repeat (first | apply sub_nil )); done) (by first | exact fun _ h => h | (intro r hr; cases hr; done) | (simp; done) | exact fun _ h => List.mem_append_left _ h | (intro r hr; simp [hr]; done)) rfl ?_; rintro v L' R' ⟨rfl, rfl, rfl⟩ H' hH RR hR; simp only [List.cons_append, List.nil_append] at hH hR; subst hH; have hR := hR.symm; subst hR)
  (repeat (first | ((first | (apply wo_v; rfl) ); (· first | (apply pv_ev; rfl) )) | apply wo_nil | apply wc_ret ))
  exact ret1 rfl rfl ⟨rfl, rfl, rfl⟩ ((by (repeat (first | apply sub_nil )); done) : List.Perm _ ([] ++ _)) (by first | exact fun _ h => h | (intro r hr; cases hr; done) | (simp; done) | exact fun _ h => List.mem_append_left _ h | (intro r hr; simp [hr]; done))
/-! ## Pli and Nack -/
theorem hPli (f0 to : Int) : Fn Try.prog 103 #[.agg #[.int .u32 f0, .int .u32 to]] [] [] (fun u L' R' => u = .tuple #[.int .u8 206, .int .u8 1] ∧ L' = [] ∧ R' = []) := by
  refine fn_intro Try.func103 rfl Try.ntmps103 rfl (fun E => ?_)
  (repeat (first | ((first | (apply wo_v; rfl) ); (· first | (apply pv_ev; rfl) )) | apply wo_nil | apply wc_seq | apply wc_region | apply wc_ret | (apply wo_box1; rfl; rfl; rfl; intro bx) | (apply wo_boxa; rfl; rfl; intro bx) ))
  exact retv rfl (by (repeat (first | apply RV.nil | (apply RV.tmp; rfl) )); done) (⟨rfl, rfl, rfl⟩) (by (repeat (first | apply sub_nil )); done) (by first | exact fun _ h => h | (intro r hr; cases hr; done) | (simp; done) | exact fun _ h => List.mem_append_left _ h | (intro r hr; simp [hr]; done))
theorem hNack (f0 to : Int) (w : Value) (hw : w.oneCell' = true) : Fn Try.prog 100 #[.agg #[.int .u32 f0, .int .u32 to, w]] [] [] (fun u L' R' => u = .tuple #[.int .u8 205, .int .u8 1] ∧ L' = [] ∧ R' = []) := by
  refine fn_intro Try.func100 rfl Try.ntmps100 rfl (fun E => ?_)
  (repeat (first | ((first | (apply wo_v; rfl) ); (· first | (apply pv_ev; rfl) )) | apply wo_nil | apply wc_seq | apply wc_region | apply wc_ret | (apply wo_box1; rfl; rfl; rfl; intro bx) | (apply wo_boxa; rfl; rfl; intro bx) ))
  exact retv rfl (by (repeat (first | apply RV.nil | (apply RV.tmp; rfl) )); done) (⟨rfl, rfl, rfl⟩) (by (repeat (first | apply sub_nil )); done) (by first | exact fun _ h => h | (intro r hr; cases hr; done) | (simp; done) | exact fun _ h => List.mem_append_left _ h | (intro r hr; simp [hr]; done))
abbrev PtF (f : FuncId) (R : List Ro) (g : Nat) (w : Value) (tx : ByteArray) : Prop := Fn Try.prog f #[w, .pointer (some ⟨g, 0, none⟩)] (wrH g none none 0 E0) R (fun u L' R' => ∃ p ao c, u = .tuple #[] ∧ L' = wrH g p ao c tx ∧ R' = [] ∧ WOk g p ao c tx)
theorem w0 (g : Nat) : WOk g none none 0 E0 := ⟨.inl rfl, .inl ⟨rfl, rfl, rfl⟩⟩
theorem pPli (R : List Ro) (g : Nat) (f0 to : Int) (h1 : in32 f0) (h2 : in32 to) : PtF 104 R g (.agg #[.int .u32 f0, .int .u32 to]) (numsS 4 [f0, to]) := by
  have hW := fun bl => wU32 g 0 bl 2 none none E0 [f0, to] (by intro y hy; simp only [List.mem_cons, List.not_mem_nil, or_false] at hy; rcases hy with rfl | rfl; exact h1; exact h2) (by simp) (w0 g) (by decide)
  rw [E0_append] at hW
  refine fn_intro Try.func104 rfl Try.ntmps104 rfl (fun E => ?_)
  (repeat (first | ((first | (apply wo_v; rfl) ); (· first | (apply pv_ev; rfl) | (apply pv_fld; rfl) | (apply g_load; first | (apply pv_ld; rfl; (· (repeat (first | apply sel_here ))); rfl) ) )) | apply wo_nil | apply wc_seq | apply wc_region | (apply wo_box1; rfl; rfl; rfl; intro bx) | (apply wo_boxa; rfl; rfl; intro bx) | (apply wo_bsl; (· (repeat (first | apply Rws'.nil | (apply Rws'.one; rfl; rfl; rfl) ))); rfl; rfl; rfl; rfl; intro bx) ))
  (refine wo_call (hW _) rfl (by (repeat (first | apply sub_nil | (apply sub_cons; (· (repeat (first | apply sel_here | apply sel_there)))))); done) (by first | exact fun _ h => h | (intro r hr; cases hr; done) | (simp; done) | exact fun _ h => List.mem_append_left _ h | (intro r hr; simp [hr]; done)) rfl ?_; rintro v L' R' ⟨p5, ao5, c5, rfl, rfl, rfl, hw5⟩ H' hH RR hR; simp only [List.cons_append, List.nil_append] at hH hR; subst hH; have hR := hR.symm; subst hR)
  (repeat (first | apply wo_nil ))
  exact ret0 rfl ⟨p5, ao5, c5, rfl, rfl, rfl, hw5⟩ (by (repeat (first | apply sub_nil )); done) (by first | exact fun _ h => h | (intro r hr; cases hr; done) | (simp; done) | exact fun _ h => List.mem_append_left _ h | (intro r hr; simp [hr]; done))
def prsT : List (Int × Int) → ByteArray
  | [] => E0
  | x :: l => numsS 2 [x.1, x.2] ++ prsT l
theorem prsT_app : ∀ a b, prsT (a ++ b) = prsT a ++ prsT b
  | [], b => (E0_append _).symm
  | x :: a, b => by
    show numsS 2 [x.1, x.2] ++ prsT (a ++ b) = (numsS 2 [x.1, x.2] ++ prsT a) ++ prsT b
    rw [prsT_app a b, ByteArray.append_assoc]
theorem prsT_take {l : List (Int × Int)} {j : Nat} {x : Int × Int} (h : l[j]? = some x) : prsT (l.take (j + 1)) = prsT (l.take j) ++ numsS 2 [x.1, x.2] := by
  rw [List.take_add_one, h, prsT_app]
  show prsT (l.take j) ++ (numsS 2 [x.1, x.2] ++ E0) = _
  rw [append_E0]
theorem prsT_size : ∀ l : List (Int × Int), (prsT l).size = 4 * l.length
  | [] => rfl
  | x :: l => by
    show (numsS 2 [x.1, x.2] ++ prsT l).size = _
    simp only [ByteArray.size_append, prsT_size l, numsS_size, List.length_cons, List.length_nil]; omega
set_option maxHeartbeats 8000000 in
theorem pNack (R : List Ro) (g : Nat) (f0 to : Int) (l : List (Int × Int)) (A : Option Addr) (n c : Nat) (hS : SQ R 2 A n c (pairV l)) (hl : l.length ≤ 10000) (h1 : in32 f0) (h2 : in32 to) (hb : ∀ x ∈ l, in16 x.1 ∧ in16 x.2) :
    PtF 101 R g (.agg #[.int .u32 f0, .int .u32 to, .slice A n c]) (numsS 4 [f0, to] ++ prsT l) := by
  have hn : n = l.length := by rw [← hS.len, pairV_len]
  subst hn
  have hW := fun bl => wU32 g 0 bl 2 none none E0 [f0, to] (by intro y hy; simp only [List.mem_cons, List.not_mem_nil, or_false] at hy; rcases hy with rfl | rfl; exact h1; exact h2) (by simp) (w0 g) (by decide)
  rw [E0_append] at hW
  have zh : (numsS 4 [f0, to]).size = 8 := by rw [numsS_size]; rfl
  generalize numsS 4 [f0, to] = th at hW zh
  refine fn_intro Try.func101 rfl Try.ntmps101 rfl (fun E => ?_)
  (repeat (first | ((first | (apply wo_v; rfl) ); (· first | (apply pv_ev; rfl) | (apply pv_fld; rfl) | (apply g_load; first | (apply pv_ld; rfl; (· (repeat (first | apply sel_here ))); rfl) ) )) | apply wo_nil | apply wc_seq | apply wc_region | (apply wo_box1; rfl; rfl; rfl; intro bx) | (apply wo_boxa; rfl; rfl; intro bx) | (apply wo_bsl; (· (repeat (first | apply Rws'.nil | (apply Rws'.one; rfl; rfl; rfl) ))); rfl; rfl; rfl; rfl; intro bx) ))
  (refine wo_call (hW _) rfl (by (repeat (first | apply sub_nil | (apply sub_cons; (· (repeat (first | apply sel_here | apply sel_there)))))); done) (by first | exact fun _ h => h | (intro r hr; cases hr; done) | (simp; done) | exact fun _ h => List.mem_append_left _ h | (intro r hr; simp [hr]; done)) rfl ?_; rintro v L' R' ⟨p5, ao5, c5, rfl, rfl, rfl, hw5⟩ H' hH RR hR; simp only [List.cons_append, List.nil_append] at hH hR; subst hH; have hR := hR.symm; subst hR)
  (repeat (first | ((first | (apply wo_v; rfl) ); (· first | (apply pv_ev; rfl) | (apply pv_fld; rfl) | (apply g_load; first | (apply pv_ld; rfl; (· (repeat (first | apply sel_here | apply sel_there))); rfl) ) | (apply g_bi; first | (apply pv_len_sl; rfl) ) )) | apply wo_nil | apply wc_seq | apply wc_region ))
  refine wc_block ?_
  refine wc_loop' (fun q st => ∃ (i : Nat) (p ao : Option Addr) (c' : Nat) (s : ByteArray), q = l.length - i ∧ i ≤ l.length ∧ s = th ++ prsT (l.take i) ∧ WOk g p ao c' s ∧ st = ⟨[(1, .pointer (some ⟨g, 0, none⟩)), (14, .slice A l.length c), (15, .int .i64 l.length), (16, .int .i64 i)], wrH g p ao c' s, R⟩) ⟨0, p5, ao5, c5, th, rfl, Nat.zero_le _, (append_E0 _).symm, hw5, rfl⟩ (wk_mk (by (repeat (first | apply wkf_nil | (apply wkf_cons; rfl))); done) (by (repeat (first | apply sub_nil )); done) (by first | exact fun _ h => h | (intro r hr; cases hr; done) | (simp; done) | exact fun _ h => List.mem_append_left _ h | (intro r hr; simp [hr]; done))) ?_
  clear hw5 hW p5 ao5 c5
  rintro q st ⟨i, p, ao, c', s, rfl, hi, hs, hw, rfl⟩
  by_cases hlt : i < l.length
  · obtain ⟨x, hx⟩ : ∃ x, l[i]? = some x := ⟨_, List.getElem?_eq_getElem hlt⟩
    have hr := pairV_at hx
    obtain ⟨⟨x1, x2⟩, x3, x4⟩ := hb _ (List.mem_of_getElem? hx)
    have hnx := prsT_take hx
    have hsz := prsT_size (l.take i)
    obtain ⟨a, b⟩ := x
    dsimp only at hr x1 x2 x3 x4 hnx
    have hsz2 : s.size ≤ 8 + 4 * i := by rw [hs, ByteArray.size_append, zh, hsz, List.length_take]; omega
    have hnx2 : s ++ numsS 2 [a, b] = th ++ prsT (l.take (i + 1)) := by rw [hnx, hs, ByteArray.append_assoc]
    obtain ⟨a0, o0, rfl, hmem⟩ := hS.pos (by omega)
    have hW2 := fun bl => wU16 g c' bl 2 p ao s [a, b] (by intro y hy; simp only [List.mem_cons, List.not_mem_nil, or_false] at hy; rcases hy with rfl | rfl; exact ⟨x1, x2⟩; exact ⟨x3, x4⟩) (by simp) hw (by omega)
    rw [hnx2] at hW2
    (repeat (first | ((first | (apply wo_v; rfl) ); (· first | (apply pv_ev; rfl) )) | apply wo_nil | apply wc_seq | apply wc_region | apply wc_skip | (apply wc_true; rfl) | (apply wc_false; rfl) | (apply a_dec_t; rfl; (· first | assumption | omega)) ))
    refine wc_block ?_
    (repeat (first | ((first | (apply wo_v; rfl) ); (· first | (apply pv_ev; rfl) | (apply pv_fld; rfl) | (apply g_load; first | (apply pv_ld; rfl; (· (repeat (first | apply sel_here ))); rfl) | (apply pv_lda; rfl; (· (repeat (first | apply sel_there))); (· (repeat (first | fail )))) | (apply pv_ld_owna; rfl; (· (repeat (first | apply sel_there))); (· assumption)) | (apply pv_ld_roa; rfl; (· (first | assumption )); (· assumption))) | (apply g_idx; first | (apply pv_idx; rfl; rfl; omega) ) )) | apply wo_nil | apply wc_seq | apply wc_region | (apply wo_alloc; rfl; intro bx) | (apply wo_bsl; (· (repeat (first | apply Rws'.nil | (apply Rws'.one; rfl; rfl; rfl) ))); rfl; rfl; rfl; rfl; intro bx) | (apply wo_sta; rfl; rfl; rfl; rfl; (· (repeat (first | apply sel_here ))); (· (repeat (first | apply LayAt.nil | apply LayAt.here ))); rfl) ))
    (refine wo_call (hW2 _) rfl (by (repeat (first | apply sub_nil | (apply sub_cons; (· (repeat (first | apply sel_here | apply sel_there)))))); done) (by first | exact fun _ h => h | (intro r hr; cases hr; done) | (simp; done) | exact fun _ h => List.mem_append_left _ h | (intro r hr; simp [hr]; done)) rfl ?_; rintro v L' R' ⟨p6, ao6, c6, rfl, rfl, rfl, hw6⟩ H' hH RR hR; simp only [List.cons_append, List.nil_append] at hH hR; subst hH; have hR := hR.symm; subst hR)
    (repeat (first | ((first | (apply wo_v; rfl) ); (· first | (apply pv_ev; rfl) | (apply g_bin; first | (apply a_add; rfl; rfl; infer_instance; omega) ) )) | apply wo_nil | apply wc_region ))
    exact loop_end ⟨i + 1, p6, ao6, c6, _, rfl, by omega, rfl, hw6, rfl⟩ (by omega) (wk_mk (by (repeat (first | apply wkf_nil | (apply wkf_cons; rfl))); done) (by (repeat (first | apply sub_nil )); done) (by first | exact fun _ h => h | (intro r hr; cases hr; done) | (simp; done) | exact fun _ h => List.mem_append_left _ h | (intro r hr; simp [hr]; done)))
  · have e : i = l.length := by omega
    subst e
    rw [List.take_length] at hs
    subst hs
    (repeat (first | ((first | (apply wo_v; rfl) ); (· first | (apply pv_ev; rfl) )) | apply wo_nil | apply wc_seq | apply wc_region | (apply wc_exit; rfl) | (apply wc_true; rfl) | (apply wc_false; rfl) | (apply a_dec_t; rfl; (· first | assumption | omega)) | (apply a_dec_f; rfl; (· first | assumption | omega)) ))
    exact ret0 rfl ⟨p, ao, c', rfl, rfl, rfl, hw⟩ (by (repeat (first | apply sub_nil )); done) (by first | exact fun _ h => h | (intro r hr; cases hr; done) | (simp; done) | exact fun _ h => List.mem_append_left _ h | (intro r hr; simp [hr]; done))
/-- through the interface -/
theorem tPli (R : List Ro) (f0 to : Int) (h1 : in32 f0) (h2 : in32 to) : PtC R (.iface 88 (.agg #[.int .u32 f0, .int .u32 to])) (numsS 4 [f0, to]) := fun g => by
  refine fn_intro Try.func29 rfl Try.ntmps29 rfl (fun E => ?_)
  (repeat (first | ((first | (apply wo_v; rfl) ); (· first | (apply pv_ev; rfl) | (apply pv_tas; rfl; infer_instance) )) | apply wo_nil | apply wc_seq | apply wc_region | (apply wc_true; rfl) ))
  (refine wo_inv rfl inferInstance (pPli R g f0 to h1 h2) rfl (by (repeat (first | apply sub_nil )); done) (by first | exact fun _ h => h | (intro r hr; cases hr; done) | (simp; done) | exact fun _ h => List.mem_append_left _ h | (intro r hr; simp [hr]; done)) rfl ?_; rintro v L' R' ⟨p5, ao5, c5, rfl, rfl, rfl, hw5⟩ H' hH RR hR; simp only [List.cons_append, List.nil_append] at hH hR; subst hH; have hR := hR.symm; subst hR)
  (repeat (first | apply wo_nil ))
  exact ret0 rfl ⟨p5, ao5, c5, rfl, rfl, rfl, hw5⟩ (by (repeat (first | apply sub_nil )); done) (by first | exact fun _ h => h | (intro r hr; cases hr; done) | (simp; done) | exact fun _ h => List.mem_append_left _ h | (intro r hr; simp [hr]; done))
theorem tNack (R : List Ro) (f0 to : Int) (l : List (Int × Int)) (A : Option Addr) (n c : Nat) (hS : SQ R 2 A n c (pairV l)) (hl : l.length ≤ 10000) (h1 : in32 f0) (h2 : in32 to) (hb : ∀ x ∈ l, in16 x.1 ∧ in16 x.2) :
    PtC R (.iface 39 (.agg #[.int .u32 f0, .int .u32 to, .slice A n c])) (numsS 4 [f0, to] ++ prsT l) := fun g => by
  refine fn_intro Try.func29 rfl Try.ntmps29 rfl (fun E => ?_)
  (repeat (first | ((first | (apply wo_v; rfl) ); (· first | (apply pv_ev; rfl) | (apply pv_tas; rfl; infer_instance) )) | apply wo_nil | apply wc_seq | apply wc_region | (apply wc_true; rfl) ))
  (refine wo_inv rfl inferInstance (pNack R g f0 to l A n c hS hl h1 h2 hb) rfl (by (repeat (first | apply sub_nil )); done) (by first | exact fun _ h => h | (intro r hr; cases hr; done) | (simp; done) | exact fun _ h => List.mem_append_left _ h | (intro r hr; simp [hr]; done)) rfl ?_; rintro v L' R' ⟨p5, ao5, c5, rfl, rfl, rfl, hw5⟩ H' hH RR hR; simp only [List.cons_append, List.nil_append] at hH hR; subst hH; have hR := hR.symm; subst hR)
  (repeat (first | apply wo_nil ))
  exact ret0 rfl ⟨p5, ao5, c5, rfl, rfl, rfl, hw5⟩ (by (repeat (first | apply sub_nil )); done) (by first | exact fun _ h => h | (intro r hr; cases hr; done) | (simp; done) | exact fun _ h => List.mem_append_left _ h | (intro r hr; simp [hr]; done))
theorem dPli (f0 to : Int) : HdC (.iface 88 (.agg #[.int .u32 f0, .int .u32 to])) 206 1 := ⟨_, _, _, rfl, inferInstance, inferInstance, hPli f0 to⟩
theorem dNack (f0 to : Int) (A : Option Addr) (n c : Nat) : HdC (.iface 39 (.agg #[.int .u32 f0, .int .u32 to, .slice A n c])) 205 1 := ⟨_, _, _, rfl, inferInstance, inferInstance, hNack f0 to _ rfl⟩
end Go.Proofs.Yteaccbbmphcmnaa

/-
  Layer 5, plain: what is written is read back.
-/
namespace Go.Proofs.Yteaccbbmphcmnaa
set_option linter.unusedSimpArgs false
set_option linter.unusedVariables false
open Go.RowKit
attribute [local irreducible] ByteArray.extract

theorem valK_all : ∀ (k : Nat) (x : Int), 0 ≤ x → x < 256 ^ k → valK (numS k x) k = x
  | 0, x, h0, h1 => by
    have : x < 1 := h1
    show (0 : Int) = x
    omega
  | k + 1, x, h0, h1 => by
    rw [valK_num, valK_all k (x / 256) (by omega) ?_]
    · omega
    · rw [Int.pow_succ] at h1
      exact Int.ediv_lt_of_lt_mul (by omega) h1
theorem uK_front (k : Nat) {x : Int} (h0 : 0 ≤ x) (h1 : x < 256 ^ k) (z : ByteArray) : uK (k : Int) (numS k x ++ z, 0) = (x, z, 0) := by
  unfold uK
  rw [rdB_front (numS k x) z (k : Int) (by rw [numS_size])]
  show (valK (numS k x) (numS k x).size, z, 0) = _
  rw [numS_size, valK_all k x h0 h1]
theorem uK1_f {x : Int} (h : in8 x) (z : ByteArray) : uK 1 (b1 x ++ z, 0) = (x, z, 0) := by
  have := uK_front 1 (x := x) h.1 (by have := h.2; omega) z
  rwa [show numS 1 x = b1 x from by
    have : x % 256 = x := Int.emod_eq_of_lt h.1 (by have := h.2; omega)
    show E0 ++ b1 (x % 256) = b1 x
    rw [E0_append, this]] at this
theorem uK2_f {x : Int} (h : in16 x) (z : ByteArray) : uK 2 (numS 2 x ++ z, 0) = (x, z, 0) := uK_front 2 h.1 (by have := h.2; omega) z
theorem uK3_f {x : Int} (h : 0 ≤ x ∧ x ≤ 16777215) (z : ByteArray) : uK 3 (numS 3 x ++ z, 0) = (x, z, 0) := uK_front 3 h.1 (by have := h.2; omega) z
theorem uK4_f {x : Int} (h : in32 x) (z : ByteArray) : uK 4 (numS 4 x ++ z, 0) = (x, z, 0) := uK_front 4 h.1 (by have := h.2; omega) z
theorem uK8_f {x : Int} (h : in64 x) (z : ByteArray) : uK 8 (numS 8 x ++ z, 0) = (x, z, 0) := uK_front 8 h.1 (by have := h.2; omega) z
/-- texts of a list -/
def catT {α : Type} (T : α → ByteArray) : List α → ByteArray
  | [] => E0
  | x :: l => T x ++ catT T l
theorem catT_app {α : Type} (T : α → ByteArray) : ∀ a b : List α, catT T (a ++ b) = catT T a ++ catT T b
  | [], b => (E0_append _).symm
  | x :: a, b => by
    show T x ++ catT T (a ++ b) = (T x ++ catT T a) ++ catT T b
    rw [catT_app T a b, ByteArray.append_assoc]
theorem catT_take {α : Type} (T : α → ByteArray) {l : List α} {j : Nat} {x : α} (h : l[j]? = some x) : catT T (l.take (j + 1)) = catT T (l.take j) ++ T x := by
  rw [List.take_add_one, h, catT_app]
  show catT T (l.take j) ++ (T x ++ E0) = _
  rw [append_E0]
theorem catT_size {α : Type} (T : α → ByteArray) {m : Nat} : ∀ {l : List α}, (∀ x ∈ l, (T x).size = m) → (catT T l).size = m * l.length
  | [], _ => rfl
  | x :: l, h => by
    show (T x ++ catT T l).size = _
    rw [ByteArray.size_append, h x (.head _), catT_size T (fun y hy => h y (.tail _ hy)), List.length_cons, Nat.mul_add]; omega
theorem repM_front {α : Type} {f : Rs → α × Rs} {T : α → ByteArray} : ∀ {l : List α}, (∀ x ∈ l, ∀ z, f (T x ++ z, 0) = (x, z, 0)) → ∀ z, repM f l.length (catT T l ++ z, 0) = (l, z, 0)
  | [], _, z => by
    show ([], E0 ++ z, (0 : Int)) = _
    rw [E0_append]
  | x :: l, h, z => by
    show repM f (l.length + 1) ((T x ++ catT T l) ++ z, 0) = _
    rw [ByteArray.append_assoc, repM, h x (.head _), repM_front (fun y hy => h y (.tail _ hy))]
theorem tilM_front {α : Type} {f : Rs → α × Rs} {T : α → ByteArray} (hT : ∀ x, 0 < (T x).size) : ∀ {l : List α}, (∀ x ∈ l, ∀ z, f (T x ++ z, 0) = (x, z, 0)) → ∀ n, (catT T l).size ≤ n → tilM f n (catT T l, 0) = (l, E0, 0)
  | [], _, n, _ => tilM_end rfl
  | x :: l, h, 0, hn => by
    have h1 : (T x ++ catT T l).size ≤ 0 := hn
    rw [ByteArray.size_append] at h1
    have := hT x
    omega
  | x :: l, h, n + 1, hn => by
    have h1 : (T x ++ catT T l).size ≤ n + 1 := hn
    rw [ByteArray.size_append] at h1
    have h2 := hT x
    show tilM f (n + 1) (T x ++ catT T l, 0) = _
    rw [tilM, if_neg (by dsimp only; rw [ByteArray.size_append]; omega), h x (.head _), tilM_front hT (fun y hy => h y (.tail _ hy)) n (by omega)]
def prT (x : Int × Int) : ByteArray := numS 2 x.1 ++ numS 2 x.2
theorem prT_eq (x : Int × Int) : numsS 2 [x.1, x.2] = prT x := by
  show numS 2 x.1 ++ (numS 2 x.2 ++ E0) = _
  rw [append_E0]; rfl
theorem prsT_cat : ∀ l, prsT l = catT prT l
  | [] => rfl
  | x :: l => by
    show numsS 2 [x.1, x.2] ++ prsT l = prT x ++ catT prT l
    rw [prT_eq, prsT_cat l]
theorem tPr_f {x : Int × Int} (h : in16 x.1 ∧ in16 x.2) (z : ByteArray) : tPr (prT x ++ z, 0) = (x, z, 0) := by
  unfold tPr prT
  rw [ByteArray.append_assoc, uK2_f h.1, uK2_f h.2]
theorem two4 (a b : Int) (z : ByteArray) : numsS 4 [a, b] ++ z = numS 4 a ++ (numS 4 b ++ z) := by
  show (numS 4 a ++ (numS 4 b ++ E0)) ++ z = _
  rw [append_E0, ByteArray.append_assoc]
theorem tNk_f {a b : Int} {l : List (Int × Int)} (ha : in32 a) (hb : in32 b) (hl : ∀ x ∈ l, in16 x.1 ∧ in16 x.2) : tNk (numsS 4 [a, b] ++ prsT l, 0) = (.nack a b l, E0, 0) := by
  unfold tNk
  rw [two4, uK4_f ha]
  dsimp only
  rw [uK4_f hb]
  dsimp only
  rw [prsT_cat, tilM_front (fun x => by unfold prT; rw [ByteArray.size_append, numS_size]; omega) (fun x hx z => tPr_f (hl x hx) z) _ (Nat.le_refl _)]
theorem tPl_f {a b : Int} (ha : in32 a) (hb : in32 b) (z : ByteArray) : uK 4 (numsS 4 [a, b] ++ z, 0) = (a, numS 4 b ++ z, 0) ∧ uK 4 (numS 4 b ++ z, 0) = (b, z, 0) := by
  rw [two4, uK4_f ha, uK4_f hb]; exact ⟨rfl, rfl⟩
/-- a packet in front -/
theorem stM_front {kd ct : Int} {tx z : ByteArray} {p : Pkt} (hk : 192 ≤ kd ∧ kd ≤ 223) (hc : 0 ≤ ct ∧ ct ≤ 255) (hz : (pad4 tx).size / 4 ≤ 65535) (h : tkM (pad4 tx, 0) kd (ct % 32) = (p, E0, 0)) : stM (one4 (kd, ct, tx) ++ z, 0) = (p, z, 0) := by
  have e1 : one4 (kd, ct, tx) ++ z = b1 (128 + ct % 32) ++ (b1 kd ++ (numS 2 ((pad4 tx).size / 4 : Nat) ++ (pad4 tx ++ z))) := by
    unfold one4 hd4
    simp only [ByteArray.append_assoc]
  unfold stM
  rw [e1, uK1_f ⟨by omega, by omega⟩]
  dsimp only
  rw [uK1_f ⟨by omega, by omega⟩]
  dsimp only
  have e2 : hdM (128 + ct % 32) kd (numS 2 ((pad4 tx).size / 4 : Nat) ++ (pad4 tx ++ z), 0) = (numS 2 ((pad4 tx).size / 4 : Nat) ++ (pad4 tx ++ z), 0) := by
    unfold hdM
    rw [if_neg (by dsimp only; omega)]
  rw [e2]
  have e3 : bdM (numS 2 ((pad4 tx).size / 4 : Nat) ++ (pad4 tx ++ z), 0) (decide ((128 + ct % 32) / 32 % 2 = 1)) = (pad4 tx, z, 0) := by
    unfold bdM
    rw [uK2_f ⟨by omega, by omega⟩]
    dsimp only
    rw [rdB_front (pad4 tx) z _ (by have := pad4_mod tx; omega)]
    unfold bdE
    rw [if_pos (.inl (by simp; omega))]
  rw [e3]
  unfold stB
  dsimp only
  rw [if_neg (by simp), show (128 + ct % 32) % 32 = ct % 32 by omega, h]
  rfl
theorem one4_pos (x : Int × Int × ByteArray) : 0 < (one4 x).size := by rw [one4_size]; omega
theorem paM_nil {n : Nat} (z : ByteArray) (hz : z.size = 0) : paM n false (z, 0) = ([], 0) := by
  cases n with
  | zero => rfl
  | succ n => rw [paM, if_pos ⟨hz, by simp⟩]
theorem paM_cons {n : Nat} {f : Bool} {x : Int × Int × ByteArray} {z : ByteArray} {p : Pkt} (h : stM (one4 x ++ z, 0) = (p, z, 0)) : paM (n + 1) f (one4 x ++ z, 0) = (p :: (paM n false (z, 0)).1, (paM n false (z, 0)).2) := by
  have := one4_pos x
  rw [paM, if_neg (by dsimp only; rw [ByteArray.size_append]; omega), h, if_neg (by simp)]
/-- packets, written, are read -/
theorem paM_all : ∀ (l : List (Int × Int × ByteArray)) (ps : List Pkt) (f : Bool) (n : Nat), ps.length = l.length → (∀ (i : Nat) x p, l[i]? = some x → ps[i]? = some p → ∀ z, stM (one4 x ++ z, 0) = (p, z, 0)) → (all4 l).size ≤ n → (f = true → l ≠ []) → paM n f (all4 l, 0) = (ps, 0)
  | [], ps, f, n, hl, _, _, hf => by
    cases f with
    | true => exact absurd rfl (hf rfl)
    | false =>
      have : ps = [] := List.length_eq_zero_iff.1 hl
      subst this
      exact paM_nil _ rfl
  | x :: l, ps, f, n, hl, h, hn, hf => by
    cases ps with
    | nil => simp at hl
    | cons p ps =>
      have hn2 : (one4 x ++ all4 l).size ≤ n := hn
      rw [ByteArray.size_append] at hn2
      have := one4_pos x
      obtain ⟨m, rfl⟩ : ∃ m, n = m + 1 := ⟨n - 1, by omega⟩
      show paM (m + 1) f (one4 x ++ all4 l, 0) = _
      rw [paM_cons (h 0 x p rfl rfl _), paM_all l ps false m (by simpa using hl) (fun i y q h1 h2 => h (i + 1) y q h1 h2) (by omega) (by simp)]
theorem pkM_all (l : List (Int × Int × ByteArray)) (ps : List Pkt) (hl : ps.length = l.length) (h : ∀ (i : Nat) x p, l[i]? = some x → ps[i]? = some p → ∀ z, stM (one4 x ++ z, 0) = (p, z, 0)) (hs : (all4 l).size ≤ 1500) (h0 : l ≠ []) : pkM (all4 l) = (ps, 0) := by
  unfold pkM
  rw [if_neg (by omega), paM_all l ps true ((all4 l).size + 1) hl h (by omega) (fun _ => h0), if_neg (by simp)]
end Go.Proofs.Yteaccbbmphcmnaa

/-
  Package rtcp: what packets write.
-/
namespace Go.Proofs.Yteaccbbmphcmnaa
set_option linter.unusedSimpArgs false
set_option linter.unusedVariables false
open Go.RowKit
attribute [local irreducible] Pv WO WC Fn
set_option maxRecDepth 100000
attribute [local irreducible] ByteArray.extract

set_option maxHeartbeats 4000000 in
theorem wR32 (g c : Nat) (p ao : Option Addr) (s : ByteArray) (xs : List Int) (A : Option Addr) (n c2 : Nat) (R : List Ro) (hS : SQ R 1 A n c2 (c32 xs)) (hx : ∀ x ∈ xs, in32 x) (hl : xs.length ≤ 1000000) (hw : WOk g p ao c s) (hz : s.size ≤ 1098000000000) :
    Fn Try.prog 102 #[.pointer (some ⟨g, 0, none⟩), .slice A n c2] (wrH g p ao c s) R
    (fun v L' R' => ∃ p' ao' c', v = .pointer (some ⟨g, 0, none⟩) ∧ L' = wrH g p' ao' c' (s ++ numsS 4 xs) ∧ R' = [] ∧ WOk g p' ao' c' (s ++ numsS 4 xs)) := by
  have hn : n = xs.length := by rw [← hS.len, c32_len]
  subst hn
  refine fn_intro Try.func102 rfl Try.ntmps102 rfl (fun E => ?_)
  (repeat (first | ((first | (apply wo_v; rfl) ); (· first | (apply pv_ev; rfl) | (apply g_bi; first | (apply pv_len_sl; rfl) ) )) | apply wo_nil | apply wc_seq | apply wc_region | apply wc_block ))
  refine wc_loop' (fun m st => ∃ (j : Nat) (p' ao' : Option Addr) (c' : Nat), m = xs.length - j ∧ st = ⟨[(0, .pointer (some ⟨g, 0, none⟩)), (7, .slice A xs.length c2), (8, .int .i64 xs.length), (9, .int .i64 j)], wrH g p' ao' c' (s ++ numsS 4 (xs.take j)), R⟩ ∧ j ≤ xs.length ∧ WOk g p' ao' c' (s ++ numsS 4 (xs.take j)))
    ⟨0, p, ao, c, rfl, by rw [List.take_zero, show numsS 4 [] = E0 from rfl, append_E0], Nat.zero_le _, by rw [List.take_zero, show numsS 4 [] = E0 from rfl, append_E0]; exact hw⟩ (wk_mk (by (repeat (first | apply wkf_nil | (apply wkf_cons; rfl))); done) (by (repeat (first | apply sub_nil )); done) (by first | exact fun _ h => h | (intro r hr; cases hr; done) | (simp; done) | exact fun _ h => List.mem_append_left _ h | (intro r hr; simp [hr]; done))) ?_
  clear hw p ao c
  rintro m st ⟨j, p, ao, c, rfl, rfl, hj, hw⟩
  by_cases hlt : j < xs.length
  · obtain ⟨x, he⟩ : ∃ x, xs[j]? = some x := ⟨_, List.getElem?_eq_getElem hlt⟩
    have hr := c32_at he
    have hxb : 0 ≤ x ∧ x ≤ 4294967295 := hx x (List.mem_of_getElem? he)
    have hS' : (s ++ numsS 4 (xs.take j)).size ≤ 1099000000000 := by
      rw [ByteArray.size_append, numsS_size, List.length_take]; omega
    have hnext := numsS_take (k := 4) he
    obtain ⟨S0, hS0⟩ : ∃ S0, s ++ numsS 4 (xs.take j) = S0 := ⟨_, rfl⟩
    have hnx : s ++ numsS 4 (xs.take (j + 1)) = S0 ++ numsS 4 [x] := by rw [hnext, ← ByteArray.append_assoc, hS0]; show S0 ++ numS 4 x = S0 ++ (numS 4 x ++ E0); rw [append_E0]
    rw [hS0] at hw hS' ⊢
    clear hnext hS0
    have hN := fun bl c2 => wNum g c bl c2 p ao S0 4 4 [x] rfl (by intro y hy; rcases List.mem_singleton.1 hy with rfl; omega) (by simp) hw hS'
    rw [← hnx] at hN
    obtain ⟨b1, o1, rfl, hmem⟩ := hS.pos (by omega)
    (repeat (first | ((first | (apply wo_v; rfl) ); (· first | (apply pv_ev; rfl) | (apply g_load; first | (apply pv_ld; rfl; (· (repeat (first | apply sel_there))); rfl) | (apply pv_ld_ownf; rfl; (· (repeat (first | fail ))); (· assumption); rfl) | (apply pv_ld_own1; rfl; (· (repeat (first | apply sel_there))); (· assumption)) | (apply pv_ld_rof; rfl; (· (first | assumption )); (· assumption); rfl) | (apply pv_ld_ro1; rfl; (· (first | assumption )); (· assumption)) ) | (apply g_conv; first | (apply a_conv; rfl; infer_instance; infer_instance; infer_instance; omega) ) | (apply g_idx; first | (apply pv_idx; rfl; rfl; omega) ) )) | apply wo_nil | apply wc_seq | apply wc_region | apply wc_block | apply wc_skip | (apply wc_true; rfl) | (apply wc_false; rfl) | (apply a_dec_t; rfl; (· first | assumption | omega)) | (apply wo_bsl; (· (repeat (first | apply Rws'.nil | (apply Rws'.one; rfl; rfl; rfl) ))); rfl; rfl; rfl; rfl; intro bx) ))
    (refine wo_call (hN _ _) rfl (by (repeat (first | apply sub_nil | (apply sub_cons; (· (repeat (first | apply sel_here | apply sel_there)))))); done) (by first | exact fun _ h => h | (intro r hr; cases hr; done) | (simp; done) | exact fun _ h => List.mem_append_left _ h | (intro r hr; simp [hr]; done)) rfl ?_; rintro v L' R' ⟨p', ao', c', rfl, rfl, rfl, hw'⟩ H' hH RR hR; simp only [List.cons_append, List.nil_append] at hH hR; subst hH; have hR := hR.symm; subst hR)
    (repeat (first | ((first | (apply wo_v; rfl) ); (· first | (apply pv_ev; rfl) | (apply g_bin; first | (apply a_add; rfl; rfl; infer_instance; omega) ) )) | apply wo_nil | apply wc_region ))
    exact loop_end ⟨j + 1, p', ao', c', rfl, rfl, by omega, hw'⟩ (by omega) (wk_mk (by (repeat (first | apply wkf_nil | (apply wkf_cons; rfl))); done) (by (repeat (first | apply sub_nil )); done) (by first | exact fun _ h => h | (intro r hr; cases hr; done) | (simp; done) | exact fun _ h => List.mem_append_left _ h | (intro r hr; simp [hr]; done)))
  · obtain rfl : j = xs.length := by omega
    rw [List.take_length] at hw ⊢
    (repeat (first | ((first | (apply wo_v; rfl) ); (· first | (apply pv_ev; rfl) )) | apply wo_nil | apply wc_seq | apply wc_region | (apply wc_exit; rfl) | apply wc_ret | (apply wc_true; rfl) | (apply wc_false; rfl) | (apply a_dec_t; rfl; (· first | assumption | omega)) | (apply a_dec_f; rfl; (· first | assumption | omega)) ))
    exact retv rfl (by (repeat (first | apply RV.nil | (apply RV.tmp; rfl) )); done) ⟨p, ao, c, rfl, rfl, rfl, hw⟩ (by (repeat (first | apply sub_nil )); done) (by first | exact fun _ h => h | (intro r hr; cases hr; done) | (simp; done) | exact fun _ h => List.mem_append_left _ h | (intro r hr; simp [hr]; done))
theorem brows_nums : ∀ {xs : List Int}, (∀ x ∈ xs, in8 x) → brows (numsS 1 xs) = xs.map fun x => [.int .u8 x]
  | [], _ => rfl
  | x :: xs, h => by
    have h1 := h x (.head _)
    show brows (numS 1 x ++ numsS 1 xs) = _
    rw [brows_append, brows_nums (fun y hy => h y (.tail _ hy))]
    have : numS 1 x = b1 x := by
      show E0 ++ b1 (x % 256) = b1 x
      rw [E0_append, Int.emod_eq_of_lt h1.1 (by have := h1.2; omega)]
    rw [this, b1_rows h1]; rfl
theorem wU8L (g c bl : Nat) (p ao : Option Addr) (s : ByteArray) (xs : List Int) (hx : ∀ x ∈ xs, in8 x) (h0 : 0 < xs.length) (hl : xs.length ≤ 1000) (hw : WOk g p ao c s) (hz : s.size ≤ 1098000000000) :
    Fn Try.prog 31 #[.pointer (some ⟨g, 0, none⟩), .slice (some ⟨bl, 0, none⟩) xs.length xs.length] (wrH g p ao c s ++ [.own 5 1 (some ⟨bl, 0, none⟩) xs.length xs.length (xs.map fun x => [.int .u8 x])]) []
    (fun v L' R' => ∃ p' ao' c', v = .pointer (some ⟨g, 0, none⟩) ∧ L' = wrH g p' ao' c' (s ++ numsS 1 xs) ∧ R' = [] ∧ WOk g p' ao' c' (s ++ numsS 1 xs)) := by
  have hs : (numsS 1 xs).size = xs.length := by rw [numsS_size]; omega
  have := wU8 g c bl xs.length p ao s (numsS 1 xs) hw (by omega) (by omega)
  rw [show byO bl xs.length (numsS 1 xs) = It.own 5 1 (some ⟨bl, 0, none⟩) (numsS 1 xs).size xs.length (brows (numsS 1 xs)) from rfl, hs, brows_nums hx] at this
  exact this
abbrev wrP1 (g : Nat) (t : ByteArray) (v : Value) (Ms : List (List It)) : Prop := ∃ (p ao : Option Addr) (c : Nat), v = .pointer (some ⟨g, 0, none⟩) ∧ Ms = [wrH g p ao c t] ∧ WOk g p ao c t
abbrev wrP0 (g : Nat) (t : ByteArray) (v : Value) (Ms : List (List It)) : Prop := ∃ (p ao : Option Addr) (c : Nat), v = .pointer (some ⟨g, 0, none⟩) ∧ Ms = [wrH g p ao c t, []] ∧ WOk g p ao c t
abbrev newP (T : TypeId) (xs : List (List Value)) (v : Value) (Ms : List (List It)) : Prop := ∃ b, v = .slice (some ⟨b, 0, none⟩) xs.length xs.length ∧ Ms = [[.own T 1 (some ⟨b, 0, none⟩) xs.length xs.length xs]]
theorem all1 {P : Int → Prop} {x : Int} (h : P x) : ∀ y ∈ [x], P y := fun y hy => by rcases List.mem_singleton.1 hy with rfl; exact h
theorem all1B {P : ByteArray → Prop} {x : ByteArray} (h : P x) : ∀ y ∈ [x], P y := fun y hy => by rcases List.mem_singleton.1 hy with rfl; exact h
theorem all2 {P : Int → Prop} {x y : Int} (h : P x) (h2 : P y) : ∀ z ∈ [x, y], P z := fun z hz => by
  simp only [List.mem_cons, List.not_mem_nil, or_false] at hz; rcases hz with rfl | rfl; exact h; exact h2
theorem all3 {P : Int → Prop} {x y u : Int} (h : P x) (h2 : P y) (h3 : P u) : ∀ z ∈ [x, y, u], P z := fun z hz => by
  simp only [List.mem_cons, List.not_mem_nil, or_false] at hz; rcases hz with rfl | rfl | rfl; exact h; exact h2; exact h3
theorem all4' {P : Int → Prop} {x y u t : Int} (h : P x) (h2 : P y) (h3 : P u) (h4 : P t) : ∀ z ∈ [x, y, u, t], P z := fun z hz => by
  simp only [List.mem_cons, List.not_mem_nil, or_false] at hz; rcases hz with rfl | rfl | rfl | rfl; exact h; exact h2; exact h3; exact h4
theorem in8_0 : in8 0 := by unfold in8; omega
theorem in32_0 : in32 0 := by unfold in32; omega
theorem in64_32 {x : Int} (h : in32 x) : 0 ≤ x ∧ x ≤ 18446744073709551615 := ⟨h.1, by have := h.2; omega⟩

/-! ## Other -/
theorem pOther (R : List Ro) (g : Nat) (kd ct : Int) (bd : ByteArray) (hb : bd.size ≤ 100000) : PtF 111 R g (.agg #[.int .u8 kd, .int .u8 ct, .string bd]) bd := by
  have hW := fun bl => wPut g 0 bl 1 none none E0 [bd] (all1B (by omega)) (by simp) (w0 g) (by decide)
  rw [E0_append, show catS [bd] = bd from append_E0 bd] at hW
  refine fn_intro Try.func111 rfl Try.ntmps111 rfl (fun E => ?_)
  (repeat (first | ((first | (apply wo_v; rfl) ); (· first | (apply pv_ev; rfl) | (apply pv_fld; rfl) | (apply g_load; first | (apply pv_ld; rfl; (· (repeat (first | apply sel_here ))); rfl) ) )) | apply wo_nil | apply wc_seq | apply wc_region | (apply wo_box1; rfl; rfl; rfl; intro bx) | (apply wo_boxa; rfl; rfl; intro bx) | (apply wo_bsl; (· (repeat (first | apply Rws'.nil | (apply Rws'.one; rfl; rfl; rfl) ))); rfl; rfl; rfl; rfl; intro bx) ))
  (refine wo_call (hW _) rfl (by (repeat (first | apply sub_nil | (apply sub_cons; (· (repeat (first | apply sel_here | apply sel_there)))))); done) (by first | exact fun _ h => h | (intro r hr; cases hr; done) | (simp; done) | exact fun _ h => List.mem_append_left _ h | (intro r hr; simp [hr]; done)) rfl ?_; rintro v L' R' ⟨p5, ao5, c5, rfl, rfl, rfl, hw5⟩ H' hH RR hR; simp only [List.cons_append, List.nil_append] at hH hR; subst hH; have hR := hR.symm; subst hR)
  (repeat (first | apply wo_nil ))
  exact ret0 rfl ⟨p5, ao5, c5, rfl, rfl, rfl, hw5⟩ (by (repeat (first | apply sub_nil )); done) (by first | exact fun _ h => h | (intro r hr; cases hr; done) | (simp; done) | exact fun _ h => List.mem_append_left _ h | (intro r hr; simp [hr]; done))

/-! ## Fir -/
def orT (x : Int × Int) : ByteArray := numsS 4 [x.1] ++ numsS 1 [x.2, 0, 0, 0]
def orsT : List (Int × Int) → ByteArray
  | [] => E0
  | x :: l => orT x ++ orsT l
theorem orsT_app : ∀ a b, orsT (a ++ b) = orsT a ++ orsT b
  | [], b => (E0_append _).symm
  | x :: a, b => by
    show orT x ++ orsT (a ++ b) = (orT x ++ orsT a) ++ orsT b
    rw [orsT_app a b, ByteArray.append_assoc]
theorem orsT_take {l : List (Int × Int)} {j : Nat} {x : Int × Int} (h : l[j]? = some x) : orsT (l.take (j + 1)) = orsT (l.take j) ++ orT x := by
  rw [List.take_add_one, h, orsT_app]
  show orsT (l.take j) ++ (orT x ++ E0) = _
  rw [append_E0]
theorem orT_size (x : Int × Int) : (orT x).size = 8 := by unfold orT; rw [ByteArray.size_append, numsS_size, numsS_size]; rfl
theorem orsT_size : ∀ l : List (Int × Int), (orsT l).size = 8 * l.length
  | [] => rfl
  | x :: l => by
    show (orT x ++ orsT l).size = _
    rw [ByteArray.size_append, orT_size, orsT_size l, List.length_cons]; omega
abbrev firB (b : Nat) (fm : Int) (v : Value) : It := .ob b (.cells #[.int .u32 fm, v] 106 (0, 0))
abbrev ordB (b : Nat) (x y : Int) : It := .ob b (.cells #[.int .u32 x, .int .u8 y] 108 (0, 0))
def tblFi (g : Nat) (x y : Int) (T1 T2 : ByteArray) : Nat → List (List It) → Value → List (List It) → Prop := fun k Ls v Ms => match k with
  | 3 => newP 37 [[.int .u32 x]] v Ms
  | 4 => wrP0 g T1 v Ms
  | 7 => newP 5 [[.int .u8 y], [.int .u8 0], [.int .u8 0], [.int .u8 0]] v Ms
  | _ => wrP0 g T2 v Ms
set_option maxHeartbeats 8000000 in
theorem pFir (R : List Ro) (g : Nat) (f0 : Int) (l : List (Int × Int)) (A : Option Addr) (n c : Nat) (hS : SQ R 2 A n c (ordV l)) (hl : l.length ≤ 10000) (h1 : in32 f0) (hb : ∀ x ∈ l, in32 x.1 ∧ in8 x.2) :
    PtF 107 R g (.agg #[.int .u32 f0, .slice A n c]) (numsS 4 [f0, 0] ++ orsT l) := by
  have hn : n = l.length := by rw [← hS.len, ordV_len]
  subst hn
  have hW := fun bl => wU32 g 0 bl 2 none none E0 [f0, 0] (all2 (P := in32) h1 in32_0) (by simp) (w0 g) (by decide)
  rw [E0_append] at hW
  have zh : (numsS 4 [f0, 0]).size = 8 := by rw [numsS_size]; rfl
  generalize numsS 4 [f0, 0] = th at hW zh ⊢
  refine fn_intro Try.func107 rfl Try.ntmps107 rfl (fun E => ?_)
  (repeat (first | ((first | (apply wo_v; rfl) ); (· first | (apply pv_ev; rfl) | (apply pv_fld; rfl) | (apply g_load; first | (apply pv_ld; rfl; (· (repeat (first | apply sel_here ))); rfl) ) )) | apply wo_nil | apply wc_seq | apply wc_region | (apply wo_box1; rfl; rfl; rfl; intro bx) | (apply wo_boxa; rfl; rfl; intro bx) | (apply wo_bsl; (· (repeat (first | apply Rws'.nil | (apply Rws'.one; rfl; rfl; rfl) ))); rfl; rfl; rfl; rfl; intro bx) ))
  rename_i bw
  obtain ⟨bp, hbp⟩ : ∃ g, g = bw := ⟨_, rfl⟩
  subst hbp
  (refine wo_call (hW _) rfl (by (repeat (first | apply sub_nil | (apply sub_cons; (· (repeat (first | apply sel_here | apply sel_there)))))); done) (by first | exact fun _ h => h | (intro r hr; cases hr; done) | (simp; done) | exact fun _ h => List.mem_append_left _ h | (intro r hr; simp [hr]; done)) rfl ?_; rintro v L' R' ⟨p5, ao5, c5, rfl, rfl, rfl, hw5⟩ H' hH RR hR; simp only [List.cons_append, List.nil_append] at hH hR; subst hH; have hR := hR.symm; subst hR)
  (repeat (first | ((first | (apply wo_v; rfl) ); (· first | (apply pv_ev; rfl) | (apply pv_fld; rfl) | (apply g_load; first | (apply pv_ld; rfl; (· (repeat (first | apply sel_here | apply sel_there))); rfl) ) | (apply g_bi; first | (apply pv_len_sl; rfl) ) )) | apply wo_nil | apply wc_seq | apply wc_region ))
  refine wc_block ?_
  refine wc_loop' (fun q st => ∃ (i : Nat) (p ao : Option Addr) (c' : Nat) (s : ByteArray), q = l.length - i ∧ i ≤ l.length ∧ s = th ++ orsT (l.take i) ∧ WOk g p ao c' s ∧ st = ⟨[(1, .pointer (some ⟨g, 0, none⟩)), (12, .slice A l.length c), (13, .int .i64 l.length), (14, .int .i64 i)], wrH g p ao c' s ++ [firB bp f0 (.slice A l.length c)], R⟩) ⟨0, p5, ao5, c5, th, rfl, Nat.zero_le _, (append_E0 _).symm, hw5, rfl⟩ (wk_mk (by (repeat (first | apply wkf_nil | (apply wkf_cons; rfl))); done) (by (repeat (first | apply sub_nil )); done) (by first | exact fun _ h => h | (intro r hr; cases hr; done) | (simp; done) | exact fun _ h => List.mem_append_left _ h | (intro r hr; simp [hr]; done))) ?_
  clear hw5 hW p5 ao5 c5
  rintro q st ⟨i, p, ao, c', s, rfl, hi, hs, hw, rfl⟩
  by_cases hlt : i < l.length
  · obtain ⟨x, hx⟩ : ∃ x, l[i]? = some x := ⟨_, List.getElem?_eq_getElem hlt⟩
    have hr := ordV_at hx
    obtain ⟨x1, x2⟩ := hb _ (List.mem_of_getElem? hx)
    have hnx := orsT_take hx
    have hsz := orsT_size (l.take i)
    obtain ⟨x, y⟩ := x
    dsimp only at hr x1 x2
    have hsz2 : s.size ≤ 8 + 8 * i := by rw [hs, ByteArray.size_append, zh, hsz, List.length_take]; omega
    obtain ⟨T1, hT1⟩ : ∃ T1, s ++ numsS 4 [x] = T1 := ⟨_, rfl⟩
    obtain ⟨T2, hT2⟩ : ∃ T2, T1 ++ numsS 1 [y, 0, 0, 0] = T2 := ⟨_, rfl⟩
    have z1 : T1.size = s.size + 4 := by rw [← hT1, ByteArray.size_append, numsS_size]; rfl
    have hnx2 : T2 = th ++ orsT (l.take (i + 1)) := by rw [hnx, ← hT2, ← hT1, hs]; unfold orT; simp only [ByteArray.append_assoc]
    obtain ⟨a0, o0, rfl, hmem⟩ := hS.pos (by omega)
    have hW1 := fun c p ao hw bl => wU32 g c bl 1 p ao s [x] (all1 (P := in32) x1) (by simp) hw (by omega)
    rw [hT1] at hW1
    have hW2 := fun c p ao hw bl => wU8L g c bl p ao T1 [y, 0, 0, 0] (all4' x2 in8_0 in8_0 in8_0) (by simp) (by simp) hw (by omega)
    rw [hT2] at hW2
    (repeat (first | ((first | (apply wo_v; rfl) ); (· first | (apply pv_ev; rfl) )) | apply wo_nil | apply wc_seq | apply wc_region | apply wc_skip | (apply wc_true; rfl) | (apply wc_false; rfl) | (apply a_dec_t; rfl; (· first | assumption | omega)) ))
    refine wc_block ?_
    (repeat (first | ((first | (apply wo_v; rfl) ); (· first | (apply pv_ev; rfl) | (apply g_load; first | (apply pv_lda; rfl; (· (repeat (first | apply sel_there))); (· (repeat (first | fail )))) | (apply pv_ld_owna; rfl; (· (repeat (first | apply sel_there))); (· assumption)) | (apply pv_ld_roa; rfl; (· (first | assumption )); (· assumption))) | (apply g_idx; first | (apply pv_idx; rfl; rfl; omega) ) )) | apply wo_nil | apply wc_seq | apply wc_region | (apply wo_alloc; rfl; intro bx) | (apply wo_sta; rfl; rfl; rfl; rfl; (· (repeat (first | apply sel_here ))); (· (repeat (first | apply LayAt.nil | apply LayAt.here ))); rfl) ))
    obtain ⟨bo, hbo⟩ : ∃ g, g = bx := ⟨_, rfl⟩
    subst hbo
    (refine wc_regM [0, 1, 2] (aslL [(3, [1]), (4, [0, 1]), (7, [2]), (8, [0, 2])]) (tblFi g x y T1 T2) ([ordB bo x y, firB bp f0 (.slice (some ⟨a0, o0, none⟩) l.length c)]) (fm [(0, wrH g p ao c' s), (1, []), (2, [])]) mixed (by kernel_rfl) (by kernel_rfl) (by decide) (aslL_ok (by decide)) (by (repeat (first | (apply prm_cons; (· (repeat (first | apply sel_here | apply sel_there)))) | apply List.Perm.nil )); done) ?_; (repeat (first | (apply HdM.val; rfl; rfl; (· first | apply gok_none ); (· first | (apply pv_ev; rfl) | (apply pv_fld; rfl) | (apply g_load; first | (apply pv_ld; rfl; (· (repeat (first | apply sel_here ))); rfl) ) )) )))
    (refine hm_eff (cs := [1]) rfl (by decide) rfl rfl (by first | exact gok_none | exact gok_run rfl rfl) (fun a ha => outc_mono (outc_bsl (by (repeat (first | apply Rws'.nil | (apply Rws'.one; rfl; rfl; rfl) )); done) rfl rfl rfl a ha) (fun v M h => by obtain ⟨b, h1, h2⟩ := h; exact ⟨[M], ⟨b, h1, congrArg (fun x => [x]) h2⟩, rfl, by simp⟩)) (⟨_, _, Exists.intro 0 (And.intro rfl rfl), rfl⟩) ?_; rintro v Ms ⟨bw1, rfl, rfl⟩ _; simp only [setls, setl, reduceIte, Nat.reduceEqDiff]; (repeat (first | (apply HdM.val; rfl; rfl; (· first | fail ); (· first | fail )) )))
    (refine hm_eff (cs := [0, 1]) rfl (by decide) rfl rfl (by first | exact gok_none | exact gok_run rfl rfl) (fun a ha => outc_mono (outc_call (F1 := _) (T := fun v M => ∃ (p ao : Option Addr) (c : Nat), v = .pointer (some ⟨g, 0, none⟩) ∧ M = wrH g p ao c T1 ∧ WOk g p ao c T1) (hW1 c' p ao hw bw1) rfl (by (repeat (first | apply sub_nil )); done) (by first | exact fun _ h => h | (intro r hr; cases hr; done) | (simp; done) | exact fun _ h => List.mem_append_left _ h | (intro r hr; simp [hr]; done)) (by rintro v L' R' ⟨p', ao', c', rfl, rfl, _, hw'⟩; exact ⟨_, ⟨p', ao', c', rfl, rfl, hw'⟩, (by (repeat (first | (apply prm_cons; (· (repeat (first | apply sel_here )))) | apply List.Perm.nil )); done)⟩) a ha) (fun v M h => Exists.elim h fun p h => Exists.elim h fun ao h => Exists.elim h fun c h => ⟨[M, []], Exists.intro p (Exists.intro ao (Exists.intro c (And.intro h.1 (And.intro (congrArg (fun x => [x, []]) h.2.1) h.2.2)))), rfl, by simp⟩)) ((by obtain ⟨p, ao, c, h⟩ := WOk.ex g T1; exact ⟨_, _, Exists.intro p (Exists.intro ao (Exists.intro c (And.intro rfl (And.intro rfl h)))), rfl⟩)) ?_; rintro v Ms ⟨pc1, aoc1, cc1, rfl, rfl, hwc1⟩ _; simp only [setls, setl, reduceIte, Nat.reduceEqDiff]; (repeat (first | (apply HdM.val; rfl; rfl; (· first | apply gok_none ); (· first | (apply pv_ev; rfl) | (apply pv_fld; rfl) | (apply g_load; first | (apply pv_ld; rfl; (· (repeat (first | apply sel_here ))); rfl) ) )) )))
    (refine hm_eff (cs := [2]) rfl (by decide) rfl rfl (by first | exact gok_none | exact gok_run rfl rfl) (fun a ha => outc_mono (outc_bsl (by (repeat (first | apply Rws'.nil | (apply Rws'.one; rfl; rfl; rfl) )); done) rfl rfl rfl a ha) (fun v M h => by obtain ⟨b, h1, h2⟩ := h; exact ⟨[M], ⟨b, h1, congrArg (fun x => [x]) h2⟩, rfl, by simp⟩)) (⟨_, _, Exists.intro 0 (And.intro rfl rfl), rfl⟩) ?_; rintro v Ms ⟨bw2, rfl, rfl⟩ _; simp only [setls, setl, reduceIte, Nat.reduceEqDiff]; (repeat (first | (apply HdM.val; rfl; rfl; (· first | fail ); (· first | fail )) )))
    (refine hm_eff (cs := [0, 2]) rfl (by decide) rfl rfl (by first | exact gok_none | exact gok_run rfl rfl) (fun a ha => outc_mono (outc_call (F1 := _) (T := fun v M => ∃ (p ao : Option Addr) (c : Nat), v = .pointer (some ⟨g, 0, none⟩) ∧ M = wrH g p ao c T2 ∧ WOk g p ao c T2) (hW2 cc1 pc1 aoc1 hwc1 bw2) rfl (by (repeat (first | apply sub_nil )); done) (by first | exact fun _ h => h | (intro r hr; cases hr; done) | (simp; done) | exact fun _ h => List.mem_append_left _ h | (intro r hr; simp [hr]; done)) (by rintro v L' R' ⟨p', ao', c', rfl, rfl, _, hw'⟩; exact ⟨_, ⟨p', ao', c', rfl, rfl, hw'⟩, (by (repeat (first | (apply prm_cons; (· (repeat (first | apply sel_here )))) | apply List.Perm.nil )); done)⟩) a ha) (fun v M h => Exists.elim h fun p h => Exists.elim h fun ao h => Exists.elim h fun c h => ⟨[M, []], Exists.intro p (Exists.intro ao (Exists.intro c (And.intro h.1 (And.intro (congrArg (fun x => [x, []]) h.2.1) h.2.2)))), rfl, by simp⟩)) ((by obtain ⟨p, ao, c, h⟩ := WOk.ex g T2; exact ⟨_, _, Exists.intro p (Exists.intro ao (Exists.intro c (And.intro rfl (And.intro rfl h)))), rfl⟩)) ?_; rintro v Ms ⟨pc2, aoc2, cc2, rfl, rfl, hwc2⟩ _; simp only [setls, setl, reduceIte, Nat.reduceEqDiff]; (repeat (first | fail )))
    (refine HdM.nil ?_; intro H hH; simp only [Hp, fm, look, setl, List.flatMap_cons, List.flatMap_nil, reduceIte, Nat.reduceEqDiff, Option.getD_some, List.append_nil, List.cons_append, List.nil_append] at hH; subst hH)
    (repeat (first | ((first | (apply wo_v; rfl) ); (· first | (apply pv_ev; rfl) | (apply g_bin; first | (apply a_add; rfl; rfl; infer_instance; omega) ) )) | apply wo_nil | apply wc_region ))
    exact loop_end ⟨i + 1, pc2, aoc2, cc2, T2, rfl, by omega, hnx2, hwc2, rfl⟩ (by omega) (wk_mk (by (repeat (first | apply wkf_nil | (apply wkf_cons; rfl))); done) (by (repeat (first | apply sub_nil | (apply sub_cons; (· (repeat (first | apply sel_here | apply sel_there)))))); done) (by first | exact fun _ h => h | (intro r hr; cases hr; done) | (simp; done) | exact fun _ h => List.mem_append_left _ h | (intro r hr; simp [hr]; done)))
  · have e : i = l.length := by omega
    subst e
    rw [List.take_length] at hs
    subst hs
    (repeat (first | ((first | (apply wo_v; rfl) ); (· first | (apply pv_ev; rfl) )) | apply wo_nil | apply wc_seq | apply wc_region | (apply wc_exit; rfl) | (apply wc_true; rfl) | (apply wc_false; rfl) | (apply a_dec_t; rfl; (· first | assumption | omega)) | (apply a_dec_f; rfl; (· first | assumption | omega)) ))
    exact ret0 rfl ⟨p, ao, c', rfl, rfl, rfl, hw⟩ (by (repeat (first | apply sub_nil )); done) (by first | exact fun _ h => h | (intro r hr; cases hr; done) | (simp; done) | exact fun _ h => List.mem_append_left _ h | (intro r hr; simp [hr]; done))
end Go.Proofs.Yteaccbbmphcmnaa

/-
  Package rtcp: what packets write: blocks, Receiver, Sender, Bye.
-/
namespace Go.Proofs.Yteaccbbmphcmnaa
set_option linter.unusedSimpArgs false
set_option linter.unusedVariables false
open Go.RowKit
attribute [local irreducible] Pv WO WC Fn
set_option maxRecDepth 100000
attribute [local irreducible] ByteArray.extract

def bkT (b : Bk) : ByteArray := numsS 4 [b.ss] ++ (numsS 1 [b.lo] ++ (numsS 3 [b.tt] ++ numsS 4 [b.la, b.ji, b.ls, b.dl]))
def bksT : List Bk → ByteArray
  | [] => E0
  | x :: l => bkT x ++ bksT l
theorem bksT_app : ∀ a b, bksT (a ++ b) = bksT a ++ bksT b
  | [], b => (E0_append _).symm
  | x :: a, b => by
    show bkT x ++ bksT (a ++ b) = (bkT x ++ bksT a) ++ bksT b
    rw [bksT_app a b, ByteArray.append_assoc]
theorem bksT_take {l : List Bk} {j : Nat} {x : Bk} (h : l[j]? = some x) : bksT (l.take (j + 1)) = bksT (l.take j) ++ bkT x := by
  rw [List.take_add_one, h, bksT_app]
  show bksT (l.take j) ++ (bkT x ++ E0) = _
  rw [append_E0]
theorem bkT_size (x : Bk) : (bkT x).size = 24 := by unfold bkT; simp only [ByteArray.size_append, numsS_size]; rfl
theorem bksT_size : ∀ l : List Bk, (bksT l).size = 24 * l.length
  | [] => rfl
  | x :: l => by
    show (bkT x ++ bksT l).size = _
    rw [ByteArray.size_append, bkT_size, bksT_size l, List.length_cons]; omega
abbrev bkB (b : Nat) (x1 x2 x3 x4 x5 x6 x7 : Int) : It := .ob b (.cells #[.int .u32 x1, .int .u8 x2, .int .u32 x3, .int .u32 x4, .int .u32 x5, .int .u32 x6, .int .u32 x7] 160 (0, 0))
def tblBk (g : Nat) (x1 x2 x3 x4 x5 x6 x7 : Int) (T1 T2 T3 T4 : ByteArray) : Nat → List (List It) → Value → List (List It) → Prop := fun k Ls v Ms => match k with
  | 3 => newP 37 [[.int .u32 x1]] v Ms
  | 4 => wrP0 g T1 v Ms
  | 7 => newP 5 [[.int .u8 x2]] v Ms
  | 8 => wrP0 g T2 v Ms
  | 12 => newP 52 [[.int .u64 x3]] v Ms
  | 13 => wrP0 g T3 v Ms
  | 22 => newP 37 [[.int .u32 x4], [.int .u32 x5], [.int .u32 x6], [.int .u32 x7]] v Ms
  | _ => wrP0 g T4 v Ms
set_option maxHeartbeats 16000000 in
theorem pBlocks (R : List Ro) (g : Nat) (p0 ao0 : Option Addr) (c0 : Nat) (s : ByteArray) (l : List Bk) (A : Option Addr) (n c : Nat) (hS : SQ R 7 A n c (blkV l)) (hl : l.length ≤ 10000) (hb : ∀ b ∈ l, b.ok) (hw0 : WOk g p0 ao0 c0 s) (hs0 : s.size ≤ 1000000) :
    Fn Try.prog 114 #[.pointer (some ⟨g, 0, none⟩), .slice A n c] (wrH g p0 ao0 c0 s) R (fun v L' R' => ∃ p ao c', v = .tuple #[] ∧ L' = wrH g p ao c' (s ++ bksT l) ∧ R' = [] ∧ WOk g p ao c' (s ++ bksT l)) := by
  have hn : n = l.length := by rw [← hS.len, blkV_len]
  subst hn
  refine fn_intro Try.func114 rfl Try.ntmps114 rfl (fun E => ?_)
  (repeat (first | ((first | (apply wo_v; rfl) ); (· first | (apply pv_ev; rfl) | (apply g_bi; first | (apply pv_len_sl; rfl) ) )) | apply wo_nil | apply wc_seq | apply wc_region ))
  refine wc_block ?_
  refine wc_loop' (fun q st => ∃ (i : Nat) (p ao : Option Addr) (c' : Nat) (u : ByteArray), q = l.length - i ∧ i ≤ l.length ∧ u = s ++ bksT (l.take i) ∧ WOk g p ao c' u ∧ st = ⟨[(0, .pointer (some ⟨g, 0, none⟩)), (6, .slice A l.length c), (7, .int .i64 l.length), (8, .int .i64 i)], wrH g p ao c' u, R⟩) ⟨0, p0, ao0, c0, s, rfl, Nat.zero_le _, (append_E0 _).symm, hw0, rfl⟩ (wk_mk (by (repeat (first | apply wkf_nil | (apply wkf_cons; rfl))); done) (by (repeat (first | apply sub_nil )); done) (by first | exact fun _ h => h | (intro r hr; cases hr; done) | (simp; done) | exact fun _ h => List.mem_append_left _ h | (intro r hr; simp [hr]; done))) ?_
  clear hw0
  rintro q st ⟨i, p, ao, c', u, rfl, hi, hs, hw, rfl⟩
  by_cases hlt : i < l.length
  · obtain ⟨x, hx⟩ : ∃ x, l[i]? = some x := ⟨_, List.getElem?_eq_getElem hlt⟩
    have hr := blkV_at hx
    have hok := hb _ (List.mem_of_getElem? hx)
    have hnx := bksT_take hx
    have hsz := bksT_size (l.take i)
    obtain ⟨x1, x2, x3, x4, x5, x6, x7⟩ := x
    unfold Bk.ok at hok
    unfold bkT at hnx
    dsimp only at hr hok hnx
    obtain ⟨k1, k2, k3, k4, k5, k6, k7⟩ := hok
    have hsz2 : u.size ≤ 1000000 + 24 * i := by rw [hs, ByteArray.size_append, hsz, List.length_take]; omega
    obtain ⟨T1, hT1⟩ : ∃ T1, u ++ numsS 4 [x1] = T1 := ⟨_, rfl⟩
    obtain ⟨T2, hT2⟩ : ∃ T2, T1 ++ numsS 1 [x2] = T2 := ⟨_, rfl⟩
    obtain ⟨T3, hT3⟩ : ∃ T3, T2 ++ numsS 3 [x3] = T3 := ⟨_, rfl⟩
    obtain ⟨T4, hT4⟩ : ∃ T4, T3 ++ numsS 4 [x4, x5, x6, x7] = T4 := ⟨_, rfl⟩
    have z1 : T1.size = u.size + 4 := by rw [← hT1, ByteArray.size_append, numsS_size]; rfl
    have z2 : T2.size = u.size + 5 := by rw [← hT2, ByteArray.size_append, numsS_size, z1]; rfl
    have z3 : T3.size = u.size + 8 := by rw [← hT3, ByteArray.size_append, numsS_size, z2]; rfl
    have hnx2 : T4 = s ++ bksT (l.take (i + 1)) := by rw [hnx, ← hT4, ← hT3, ← hT2, ← hT1, hs]; simp only [ByteArray.append_assoc]
    obtain ⟨a0, o0, rfl, hmem⟩ := hS.pos (by omega)
    have hW1 := fun c p ao hw bl => wU32 g c bl 1 p ao u [x1] (all1 (P := in32) k1) (by simp) hw (by omega)
    rw [hT1] at hW1
    have hW2 := fun c p ao hw bl => wU8L g c bl p ao T1 [x2] (all1 (P := in8) k2) (by simp) (by simp) hw (by omega)
    rw [hT2] at hW2
    have hW3 := fun c p ao hw bl => wNum g c bl 1 p ao T2 3 3 [x3] rfl (all1 (P := fun x => 0 ≤ x ∧ x ≤ 18446744073709551615) (by omega)) (by simp) hw (by omega)
    rw [hT3] at hW3
    have hW4 := fun c p ao hw bl => wU32 g c bl 4 p ao T3 [x4, x5, x6, x7] (all4' (P := in32) k4 k5 k6 k7) (by simp) hw (by omega)
    rw [hT4] at hW4
    (repeat (first | ((first | (apply wo_v; rfl) ); (· first | (apply pv_ev; rfl) )) | apply wo_nil | apply wc_seq | apply wc_region | apply wc_skip | (apply wc_true; rfl) | (apply wc_false; rfl) | (apply a_dec_t; rfl; (· first | assumption | omega)) ))
    refine wc_block ?_
    (repeat (first | ((first | (apply wo_v; rfl) ); (· first | (apply pv_ev; rfl) | (apply g_load; first | (apply pv_lda; rfl; (· (repeat (first | apply sel_there))); (· (repeat (first | fail )))) | (apply pv_ld_owna; rfl; (· (repeat (first | apply sel_there))); (· assumption)) | (apply pv_ld_roa; rfl; (· (first | assumption )); (· assumption))) | (apply g_idx; first | (apply pv_idx; rfl; rfl; omega) ) )) | apply wo_nil | apply wc_seq | apply wc_region | (apply wo_alloc; rfl; intro bx) | (apply wo_sta; rfl; rfl; rfl; rfl; (· (repeat (first | apply sel_here ))); (· (repeat (first | apply LayAt.nil | apply LayAt.here ))); rfl) ))
    obtain ⟨bo, hbo⟩ : ∃ g, g = bx := ⟨_, rfl⟩
    subst hbo
    (refine wc_regM [0, 1, 2, 3, 4] (aslL [(3, [1]), (4, [0, 1]), (7, [2]), (8, [0, 2]), (12, [3]), (13, [0, 3]), (22, [4]), (23, [0, 4])]) (tblBk g x1 x2 x3 x4 x5 x6 x7 T1 T2 T3 T4) ([bkB bo x1 x2 x3 x4 x5 x6 x7]) (fm [(0, wrH g p ao c' u), (1, []), (2, []), (3, []), (4, [])]) mixed (by kernel_rfl) (by kernel_rfl) (by decide) (aslL_ok (by decide)) (by (repeat (first | (apply prm_cons; (· (repeat (first | apply sel_here )))) | apply List.Perm.nil )); done) ?_; (repeat (first | (apply HdM.val; rfl; rfl; (· first | apply gok_none ); (· first | (apply pv_ev; rfl) | (apply pv_fld; rfl) | (apply g_load; first | (apply pv_ld; rfl; (· (repeat (first | apply sel_here ))); rfl) ) )) )))
    (refine hm_eff (cs := [1]) rfl (by decide) rfl rfl (by first | exact gok_none | exact gok_run rfl rfl) (fun a ha => outc_mono (outc_bsl (by (repeat (first | apply Rws'.nil | (apply Rws'.one; rfl; rfl; rfl) )); done) rfl rfl rfl a ha) (fun v M h => by obtain ⟨b, h1, h2⟩ := h; exact ⟨[M], ⟨b, h1, congrArg (fun x => [x]) h2⟩, rfl, by simp⟩)) (⟨_, _, Exists.intro 0 (And.intro rfl rfl), rfl⟩) ?_; rintro v Ms ⟨bw1, rfl, rfl⟩ _; simp only [setls, setl, reduceIte, Nat.reduceEqDiff]; (repeat (first | (apply HdM.val; rfl; rfl; (· first | fail ); (· first | fail )) )))
    (refine hm_eff (cs := [0, 1]) rfl (by decide) rfl rfl (by first | exact gok_none | exact gok_run rfl rfl) (fun a ha => outc_mono (outc_call (F1 := _) (T := fun v M => ∃ (p ao : Option Addr) (c : Nat), v = .pointer (some ⟨g, 0, none⟩) ∧ M = wrH g p ao c T1 ∧ WOk g p ao c T1) (hW1 c' p ao hw bw1) rfl (by (repeat (first | apply sub_nil )); done) (by first | exact fun _ h => h | (intro r hr; cases hr; done) | (simp; done) | exact fun _ h => List.mem_append_left _ h | (intro r hr; simp [hr]; done)) (by rintro v L' R' ⟨p', ao', c', rfl, rfl, _, hw'⟩; exact ⟨_, ⟨p', ao', c', rfl, rfl, hw'⟩, (by (repeat (first | (apply prm_cons; (· (repeat (first | apply sel_here )))) | apply List.Perm.nil )); done)⟩) a ha) (fun v M h => Exists.elim h fun p h => Exists.elim h fun ao h => Exists.elim h fun c h => ⟨[M, []], Exists.intro p (Exists.intro ao (Exists.intro c (And.intro h.1 (And.intro (congrArg (fun x => [x, []]) h.2.1) h.2.2)))), rfl, by simp⟩)) ((by obtain ⟨p, ao, c, h⟩ := WOk.ex g T1; exact ⟨_, _, Exists.intro p (Exists.intro ao (Exists.intro c (And.intro rfl (And.intro rfl h)))), rfl⟩)) ?_; rintro v Ms ⟨pc1, aoc1, cc1, rfl, rfl, hwc1⟩ _; simp only [setls, setl, reduceIte, Nat.reduceEqDiff]; (repeat (first | (apply HdM.val; rfl; rfl; (· first | apply gok_none ); (· first | (apply pv_ev; rfl) | (apply pv_fld; rfl) | (apply g_load; first | (apply pv_ld; rfl; (· (repeat (first | apply sel_here ))); rfl) ) )) )))
    (refine hm_eff (cs := [2]) rfl (by decide) rfl rfl (by first | exact gok_none | exact gok_run rfl rfl) (fun a ha => outc_mono (outc_bsl (by (repeat (first | apply Rws'.nil | (apply Rws'.one; rfl; rfl; rfl) )); done) rfl rfl rfl a ha) (fun v M h => by obtain ⟨b, h1, h2⟩ := h; exact ⟨[M], ⟨b, h1, congrArg (fun x => [x]) h2⟩, rfl, by simp⟩)) (⟨_, _, Exists.intro 0 (And.intro rfl rfl), rfl⟩) ?_; rintro v Ms ⟨bw2, rfl, rfl⟩ _; simp only [setls, setl, reduceIte, Nat.reduceEqDiff]; (repeat (first | (apply HdM.val; rfl; rfl; (· first | fail ); (· first | fail )) )))
    (refine hm_eff (cs := [0, 2]) rfl (by decide) rfl rfl (by first | exact gok_none | exact gok_run rfl rfl) (fun a ha => outc_mono (outc_call (F1 := _) (T := fun v M => ∃ (p ao : Option Addr) (c : Nat), v = .pointer (some ⟨g, 0, none⟩) ∧ M = wrH g p ao c T2 ∧ WOk g p ao c T2) (hW2 cc1 pc1 aoc1 hwc1 bw2) rfl (by (repeat (first | apply sub_nil )); done) (by first | exact fun _ h => h | (intro r hr; cases hr; done) | (simp; done) | exact fun _ h => List.mem_append_left _ h | (intro r hr; simp [hr]; done)) (by rintro v L' R' ⟨p', ao', c', rfl, rfl, _, hw'⟩; exact ⟨_, ⟨p', ao', c', rfl, rfl, hw'⟩, (by (repeat (first | (apply prm_cons; (· (repeat (first | apply sel_here )))) | apply List.Perm.nil )); done)⟩) a ha) (fun v M h => Exists.elim h fun p h => Exists.elim h fun ao h => Exists.elim h fun c h => ⟨[M, []], Exists.intro p (Exists.intro ao (Exists.intro c (And.intro h.1 (And.intro (congrArg (fun x => [x, []]) h.2.1) h.2.2)))), rfl, by simp⟩)) ((by obtain ⟨p, ao, c, h⟩ := WOk.ex g T2; exact ⟨_, _, Exists.intro p (Exists.intro ao (Exists.intro c (And.intro rfl (And.intro rfl h)))), rfl⟩)) ?_; rintro v Ms ⟨pc2, aoc2, cc2, rfl, rfl, hwc2⟩ _; simp only [setls, setl, reduceIte, Nat.reduceEqDiff]; (repeat (first | (apply HdM.val; rfl; rfl; (· first | apply gok_none ); (· first | (apply pv_ev; rfl) | (apply pv_fld; rfl) | (apply g_load; first | (apply pv_ld; rfl; (· (repeat (first | apply sel_here ))); rfl) ) | (apply g_conv; first | (apply a_conv; rfl; infer_instance; infer_instance; infer_instance; omega) ) )) )))
    (refine hm_eff (cs := [3]) rfl (by decide) rfl rfl (by first | exact gok_none | exact gok_run rfl rfl) (fun a ha => outc_mono (outc_bsl (by (repeat (first | apply Rws'.nil | (apply Rws'.one; rfl; rfl; rfl) )); done) rfl rfl rfl a ha) (fun v M h => by obtain ⟨b, h1, h2⟩ := h; exact ⟨[M], ⟨b, h1, congrArg (fun x => [x]) h2⟩, rfl, by simp⟩)) (⟨_, _, Exists.intro 0 (And.intro rfl rfl), rfl⟩) ?_; rintro v Ms ⟨bw3, rfl, rfl⟩ _; simp only [setls, setl, reduceIte, Nat.reduceEqDiff]; (repeat (first | (apply HdM.val; rfl; rfl; (· first | fail ); (· first | fail )) )))
    (refine hm_eff (cs := [0, 3]) rfl (by decide) rfl rfl (by first | exact gok_none | exact gok_run rfl rfl) (fun a ha => outc_mono (outc_call (F1 := _) (T := fun v M => ∃ (p ao : Option Addr) (c : Nat), v = .pointer (some ⟨g, 0, none⟩) ∧ M = wrH g p ao c T3 ∧ WOk g p ao c T3) (hW3 cc2 pc2 aoc2 hwc2 bw3) rfl (by (repeat (first | apply sub_nil )); done) (by first | exact fun _ h => h | (intro r hr; cases hr; done) | (simp; done) | exact fun _ h => List.mem_append_left _ h | (intro r hr; simp [hr]; done)) (by rintro v L' R' ⟨p', ao', c', rfl, rfl, _, hw'⟩; exact ⟨_, ⟨p', ao', c', rfl, rfl, hw'⟩, (by (repeat (first | (apply prm_cons; (· (repeat (first | apply sel_here )))) | apply List.Perm.nil )); done)⟩) a ha) (fun v M h => Exists.elim h fun p h => Exists.elim h fun ao h => Exists.elim h fun c h => ⟨[M, []], Exists.intro p (Exists.intro ao (Exists.intro c (And.intro h.1 (And.intro (congrArg (fun x => [x, []]) h.2.1) h.2.2)))), rfl, by simp⟩)) ((by obtain ⟨p, ao, c, h⟩ := WOk.ex g T3; exact ⟨_, _, Exists.intro p (Exists.intro ao (Exists.intro c (And.intro rfl (And.intro rfl h)))), rfl⟩)) ?_; rintro v Ms ⟨pc3, aoc3, cc3, rfl, rfl, hwc3⟩ _; simp only [setls, setl, reduceIte, Nat.reduceEqDiff]; (repeat (first | (apply HdM.val; rfl; rfl; (· first | apply gok_none ); (· first | (apply pv_ev; rfl) | (apply pv_fld; rfl) | (apply g_load; first | (apply pv_ld; rfl; (· (repeat (first | apply sel_here ))); rfl) ) )) )))
    (refine hm_eff (cs := [4]) rfl (by decide) rfl rfl (by first | exact gok_none | exact gok_run rfl rfl) (fun a ha => outc_mono (outc_bsl (by (repeat (first | apply Rws'.nil | (apply Rws'.one; rfl; rfl; rfl) )); done) rfl rfl rfl a ha) (fun v M h => by obtain ⟨b, h1, h2⟩ := h; exact ⟨[M], ⟨b, h1, congrArg (fun x => [x]) h2⟩, rfl, by simp⟩)) (⟨_, _, Exists.intro 0 (And.intro rfl rfl), rfl⟩) ?_; rintro v Ms ⟨bw4, rfl, rfl⟩ _; simp only [setls, setl, reduceIte, Nat.reduceEqDiff]; (repeat (first | (apply HdM.val; rfl; rfl; (· first | fail ); (· first | fail )) )))
    (refine hm_eff (cs := [0, 4]) rfl (by decide) rfl rfl (by first | exact gok_none | exact gok_run rfl rfl) (fun a ha => outc_mono (outc_call (F1 := _) (T := fun v M => ∃ (p ao : Option Addr) (c : Nat), v = .pointer (some ⟨g, 0, none⟩) ∧ M = wrH g p ao c T4 ∧ WOk g p ao c T4) (hW4 cc3 pc3 aoc3 hwc3 bw4) rfl (by (repeat (first | apply sub_nil )); done) (by first | exact fun _ h => h | (intro r hr; cases hr; done) | (simp; done) | exact fun _ h => List.mem_append_left _ h | (intro r hr; simp [hr]; done)) (by rintro v L' R' ⟨p', ao', c', rfl, rfl, _, hw'⟩; exact ⟨_, ⟨p', ao', c', rfl, rfl, hw'⟩, (by (repeat (first | (apply prm_cons; (· (repeat (first | apply sel_here )))) | apply List.Perm.nil )); done)⟩) a ha) (fun v M h => Exists.elim h fun p h => Exists.elim h fun ao h => Exists.elim h fun c h => ⟨[M, []], Exists.intro p (Exists.intro ao (Exists.intro c (And.intro h.1 (And.intro (congrArg (fun x => [x, []]) h.2.1) h.2.2)))), rfl, by simp⟩)) ((by obtain ⟨p, ao, c, h⟩ := WOk.ex g T4; exact ⟨_, _, Exists.intro p (Exists.intro ao (Exists.intro c (And.intro rfl (And.intro rfl h)))), rfl⟩)) ?_; rintro v Ms ⟨pc4, aoc4, cc4, rfl, rfl, hwc4⟩ _; simp only [setls, setl, reduceIte, Nat.reduceEqDiff]; (repeat (first | fail )))
    (refine HdM.nil ?_; intro H hH; simp only [Hp, fm, look, setl, List.flatMap_cons, List.flatMap_nil, reduceIte, Nat.reduceEqDiff, Option.getD_some, List.append_nil, List.cons_append, List.nil_append] at hH; subst hH)
    (repeat (first | ((first | (apply wo_v; rfl) ); (· first | (apply pv_ev; rfl) | (apply g_bin; first | (apply a_add; rfl; rfl; infer_instance; omega) ) )) | apply wo_nil | apply wc_region ))
    exact loop_end ⟨i + 1, pc4, aoc4, cc4, T4, rfl, by omega, hnx2, hwc4, rfl⟩ (by omega) (wk_mk (by (repeat (first | apply wkf_nil | (apply wkf_cons; rfl))); done) (by (repeat (first | apply sub_nil | (apply sub_cons; (· (repeat (first | apply sel_here | apply sel_there)))))); done) (by first | exact fun _ h => h | (intro r hr; cases hr; done) | (simp; done) | exact fun _ h => List.mem_append_left _ h | (intro r hr; simp [hr]; done)))
  · have e : i = l.length := by omega
    subst e
    rw [List.take_length] at hs
    subst hs
    (repeat (first | ((first | (apply wo_v; rfl) ); (· first | (apply pv_ev; rfl) )) | apply wo_nil | apply wc_seq | apply wc_region | (apply wc_exit; rfl) | (apply wc_true; rfl) | (apply wc_false; rfl) | (apply a_dec_t; rfl; (· first | assumption | omega)) | (apply a_dec_f; rfl; (· first | assumption | omega)) ))
    exact ret0 rfl ⟨p, ao, c', rfl, rfl, rfl, hw⟩ (by (repeat (first | apply sub_nil )); done) (by first | exact fun _ h => h | (intro r hr; cases hr; done) | (simp; done) | exact fun _ h => List.mem_append_left _ h | (intro r hr; simp [hr]; done))
set_option maxHeartbeats 4000000 in
theorem pReceiver (R : List Ro) (g : Nat) (ss : Int) (l : List Bk) (A : Option Addr) (n c : Nat) (hS : SQ R 7 A n c (blkV l)) (hl : l.length ≤ 10000) (hb : ∀ b ∈ l, b.ok) (h1 : in32 ss) :
    PtF 116 R g (.agg #[.int .u32 ss, .slice A n c]) (numsS 4 [ss] ++ bksT l) := by
  have hW := fun bl => wU32 g 0 bl 1 none none E0 [ss] (all1 (P := in32) h1) (by simp) (w0 g) (by decide)
  rw [E0_append] at hW
  have zh : (numsS 4 [ss]).size = 4 := by rw [numsS_size]; rfl
  generalize numsS 4 [ss] = th at hW zh ⊢
  refine fn_intro Try.func116 rfl Try.ntmps116 rfl (fun E => ?_)
  (repeat (first | ((first | (apply wo_v; rfl) ); (· first | (apply pv_ev; rfl) | (apply pv_fld; rfl) | (apply g_load; first | (apply pv_ld; rfl; (· (repeat (first | apply sel_here ))); rfl) ) )) | apply wo_nil | apply wc_seq | apply wc_region | (apply wo_box1; rfl; rfl; rfl; intro bx) | (apply wo_boxa; rfl; rfl; intro bx) | (apply wo_bsl; (· (repeat (first | apply Rws'.nil | (apply Rws'.one; rfl; rfl; rfl) ))); rfl; rfl; rfl; rfl; intro bx) ))
  rename_i bw
  obtain ⟨bp, hbp⟩ : ∃ g, g = bw := ⟨_, rfl⟩
  subst hbp
  (refine wo_call (hW _) rfl (by (repeat (first | apply sub_nil | (apply sub_cons; (· (repeat (first | apply sel_here | apply sel_there)))))); done) (by first | exact fun _ h => h | (intro r hr; cases hr; done) | (simp; done) | exact fun _ h => List.mem_append_left _ h | (intro r hr; simp [hr]; done)) rfl ?_; rintro v L' R' ⟨p5, ao5, c5, rfl, rfl, rfl, hw5⟩ H' hH RR hR; simp only [List.cons_append, List.nil_append] at hH hR; subst hH; have hR := hR.symm; subst hR)
  (repeat (first | ((first | (apply wo_v; rfl) ); (· first | (apply pv_ev; rfl) | (apply pv_fld; rfl) | (apply g_load; first | (apply pv_ld; rfl; (· (repeat (first | apply sel_here | apply sel_there))); rfl) ) )) | apply wo_nil | apply wc_region ))
  (refine wo_call (pBlocks R g p5 ao5 c5 th l A n c hS hl hb hw5 (by omega)) rfl (by (repeat (first | apply sub_nil )); done) (by first | exact fun _ h => h | (intro r hr; cases hr; done) | (simp; done) | exact fun _ h => List.mem_append_left _ h | (intro r hr; simp [hr]; done)) rfl ?_; rintro v L' R' ⟨p6, ao6, c6, rfl, rfl, rfl, hw6⟩ H' hH RR hR; simp only [List.cons_append, List.nil_append] at hH hR; subst hH; have hR := hR.symm; subst hR)
  (repeat (first | apply wo_nil ))
  exact ret0 rfl ⟨p6, ao6, c6, rfl, rfl, rfl, hw6⟩ (by (repeat (first | apply sub_nil )); done) (by first | exact fun _ h => h | (intro r hr; cases hr; done) | (simp; done) | exact fun _ h => List.mem_append_left _ h | (intro r hr; simp [hr]; done))
abbrev snB (b : Nat) (ss ntp t pk oc : Int) (v : Value) : It := .ob b (.cells #[.int .u32 ss, .int .u64 ntp, .int .u32 t, .int .u32 pk, .int .u32 oc, v] 130 (0, 0))
def tblSn (g : Nat) (ss ntp t pk oc : Int) (T1 T2 T3 : ByteArray) : Nat → List (List It) → Value → List (List It) → Prop := fun k Ls v Ms => match k with
  | 3 => newP 37 [[.int .u32 ss]] v Ms
  | 4 => wrP0 g T1 v Ms
  | 7 => newP 52 [[.int .u64 ntp]] v Ms
  | 8 => wrP0 g T2 v Ms
  | 15 => newP 37 [[.int .u32 t], [.int .u32 pk], [.int .u32 oc]] v Ms
  | _ => wrP0 g T3 v Ms
set_option maxHeartbeats 8000000 in
theorem pSender (R : List Ro) (g : Nat) (ss ntp t pk oc : Int) (l : List Bk) (A : Option Addr) (n c : Nat) (hS : SQ R 7 A n c (blkV l)) (hl : l.length ≤ 10000) (hb : ∀ b ∈ l, b.ok) (h1 : in32 ss) (h2 : in64 ntp) (h3 : in32 t) (h4 : in32 pk) (h5 : in32 oc) :
    PtF 113 R g (.agg #[.int .u32 ss, .int .u64 ntp, .int .u32 t, .int .u32 pk, .int .u32 oc, .slice A n c]) (numsS 4 [ss] ++ numsS 8 [ntp] ++ numsS 4 [t, pk, oc] ++ bksT l) := by
  obtain ⟨T1, hT1⟩ : ∃ T1, numsS 4 [ss] = T1 := ⟨_, rfl⟩
  rw [hT1]
  obtain ⟨T2, hT2⟩ : ∃ T2, T1 ++ numsS 8 [ntp] = T2 := ⟨_, rfl⟩
  rw [hT2]
  obtain ⟨T3, hT3⟩ : ∃ T3, T2 ++ numsS 4 [t, pk, oc] = T3 := ⟨_, rfl⟩
  rw [hT3]
  have z1 : T1.size = 4 := by rw [← hT1, numsS_size]; rfl
  have z2 : T2.size = 12 := by rw [← hT2, ByteArray.size_append, numsS_size, z1]; rfl
  have z3 : T3.size = 24 := by rw [← hT3, ByteArray.size_append, numsS_size, z2]; rfl
  have hW1 := fun c p ao hw bl => wU32 g c bl 1 p ao E0 [ss] (all1 (P := in32) h1) (by simp) hw (by decide)
  rw [E0_append, hT1] at hW1
  have hW2 := fun c p ao hw bl => wNum g c bl 1 p ao T1 8 8 [ntp] rfl (all1 (P := in64) h2) (by simp) hw (by omega)
  rw [hT2] at hW2
  have hW3 := fun c p ao hw bl => wU32 g c bl 3 p ao T2 [t, pk, oc] (all3 (P := in32) h3 h4 h5) (by simp) hw (by omega)
  rw [hT3] at hW3
  refine fn_intro Try.func113 rfl Try.ntmps113 rfl (fun E => ?_)
  (repeat (first | ((first | (apply wo_v; rfl) ); (· first | (apply pv_ev; rfl) )) | apply wo_nil | apply wc_seq | apply wc_region | (apply wo_box1; rfl; rfl; rfl; intro bx) | (apply wo_boxa; rfl; rfl; intro bx) ))
  obtain ⟨bp, hbp⟩ : ∃ g, g = bx := ⟨_, rfl⟩
  subst hbp
  (refine wc_regM [0, 1, 2, 3] (aslL [(3, [1]), (4, [0, 1]), (7, [2]), (8, [0, 2]), (15, [3]), (16, [0, 3])]) (tblSn g ss ntp t pk oc T1 T2 T3) ([snB bp ss ntp t pk oc (.slice A n c)]) (fm [(0, wrH g none none 0 E0), (1, []), (2, []), (3, [])]) mixed (by kernel_rfl) (by kernel_rfl) (by decide) (aslL_ok (by decide)) (by (repeat (first | (apply prm_cons; (· (repeat (first | apply sel_here )))) | apply List.Perm.nil )); done) ?_; (repeat (first | (apply HdM.val; rfl; rfl; (· first | apply gok_none ); (· first | (apply pv_ev; rfl) | (apply pv_fld; rfl) | (apply g_load; first | (apply pv_ld; rfl; (· (repeat (first | apply sel_here ))); rfl) ) )) )))
  (refine hm_eff (cs := [1]) rfl (by decide) rfl rfl (by first | exact gok_none | exact gok_run rfl rfl) (fun a ha => outc_mono (outc_bsl (by (repeat (first | apply Rws'.nil | (apply Rws'.one; rfl; rfl; rfl) )); done) rfl rfl rfl a ha) (fun v M h => by obtain ⟨b, h1, h2⟩ := h; exact ⟨[M], ⟨b, h1, congrArg (fun x => [x]) h2⟩, rfl, by simp⟩)) (⟨_, _, Exists.intro 0 (And.intro rfl rfl), rfl⟩) ?_; rintro v Ms ⟨bw1, rfl, rfl⟩ _; simp only [setls, setl, reduceIte, Nat.reduceEqDiff]; (repeat (first | (apply HdM.val; rfl; rfl; (· first | fail ); (· first | fail )) )))
  (refine hm_eff (cs := [0, 1]) rfl (by decide) rfl rfl (by first | exact gok_none | exact gok_run rfl rfl) (fun a ha => outc_mono (outc_call (F1 := _) (T := fun v M => ∃ (p ao : Option Addr) (c : Nat), v = .pointer (some ⟨g, 0, none⟩) ∧ M = wrH g p ao c T1 ∧ WOk g p ao c T1) (hW1 0 none none (w0 g) bw1) rfl (by (repeat (first | apply sub_nil )); done) (by first | exact fun _ h => h | (intro r hr; cases hr; done) | (simp; done) | exact fun _ h => List.mem_append_left _ h | (intro r hr; simp [hr]; done)) (by rintro v L' R' ⟨p', ao', c', rfl, rfl, _, hw'⟩; exact ⟨_, ⟨p', ao', c', rfl, rfl, hw'⟩, (by (repeat (first | (apply prm_cons; (· (repeat (first | apply sel_here )))) | apply List.Perm.nil )); done)⟩) a ha) (fun v M h => Exists.elim h fun p h => Exists.elim h fun ao h => Exists.elim h fun c h => ⟨[M, []], Exists.intro p (Exists.intro ao (Exists.intro c (And.intro h.1 (And.intro (congrArg (fun x => [x, []]) h.2.1) h.2.2)))), rfl, by simp⟩)) ((by obtain ⟨p, ao, c, h⟩ := WOk.ex g T1; exact ⟨_, _, Exists.intro p (Exists.intro ao (Exists.intro c (And.intro rfl (And.intro rfl h)))), rfl⟩)) ?_; rintro v Ms ⟨pc1, aoc1, cc1, rfl, rfl, hwc1⟩ _; simp only [setls, setl, reduceIte, Nat.reduceEqDiff]; (repeat (first | (apply HdM.val; rfl; rfl; (· first | apply gok_none ); (· first | (apply pv_ev; rfl) | (apply pv_fld; rfl) | (apply g_load; first | (apply pv_ld; rfl; (· (repeat (first | apply sel_here ))); rfl) ) )) )))
  (refine hm_eff (cs := [2]) rfl (by decide) rfl rfl (by first | exact gok_none | exact gok_run rfl rfl) (fun a ha => outc_mono (outc_bsl (by (repeat (first | apply Rws'.nil | (apply Rws'.one; rfl; rfl; rfl) )); done) rfl rfl rfl a ha) (fun v M h => by obtain ⟨b, h1, h2⟩ := h; exact ⟨[M], ⟨b, h1, congrArg (fun x => [x]) h2⟩, rfl, by simp⟩)) (⟨_, _, Exists.intro 0 (And.intro rfl rfl), rfl⟩) ?_; rintro v Ms ⟨bw2, rfl, rfl⟩ _; simp only [setls, setl, reduceIte, Nat.reduceEqDiff]; (repeat (first | (apply HdM.val; rfl; rfl; (· first | fail ); (· first | fail )) )))
  (refine hm_eff (cs := [0, 2]) rfl (by decide) rfl rfl (by first | exact gok_none | exact gok_run rfl rfl) (fun a ha => outc_mono (outc_call (F1 := _) (T := fun v M => ∃ (p ao : Option Addr) (c : Nat), v = .pointer (some ⟨g, 0, none⟩) ∧ M = wrH g p ao c T2 ∧ WOk g p ao c T2) (hW2 cc1 pc1 aoc1 hwc1 bw2) rfl (by (repeat (first | apply sub_nil )); done) (by first | exact fun _ h => h | (intro r hr; cases hr; done) | (simp; done) | exact fun _ h => List.mem_append_left _ h | (intro r hr; simp [hr]; done)) (by rintro v L' R' ⟨p', ao', c', rfl, rfl, _, hw'⟩; exact ⟨_, ⟨p', ao', c', rfl, rfl, hw'⟩, (by (repeat (first | (apply prm_cons; (· (repeat (first | apply sel_here )))) | apply List.Perm.nil )); done)⟩) a ha) (fun v M h => Exists.elim h fun p h => Exists.elim h fun ao h => Exists.elim h fun c h => ⟨[M, []], Exists.intro p (Exists.intro ao (Exists.intro c (And.intro h.1 (And.intro (congrArg (fun x => [x, []]) h.2.1) h.2.2)))), rfl, by simp⟩)) ((by obtain ⟨p, ao, c, h⟩ := WOk.ex g T2; exact ⟨_, _, Exists.intro p (Exists.intro ao (Exists.intro c (And.intro rfl (And.intro rfl h)))), rfl⟩)) ?_; rintro v Ms ⟨pc2, aoc2, cc2, rfl, rfl, hwc2⟩ _; simp only [setls, setl, reduceIte, Nat.reduceEqDiff]; (repeat (first | (apply HdM.val; rfl; rfl; (· first | apply gok_none ); (· first | (apply pv_ev; rfl) | (apply pv_fld; rfl) | (apply g_load; first | (apply pv_ld; rfl; (· (repeat (first | apply sel_here ))); rfl) ) )) )))
  (refine hm_eff (cs := [3]) rfl (by decide) rfl rfl (by first | exact gok_none | exact gok_run rfl rfl) (fun a ha => outc_mono (outc_bsl (by (repeat (first | apply Rws'.nil | (apply Rws'.one; rfl; rfl; rfl) )); done) rfl rfl rfl a ha) (fun v M h => by obtain ⟨b, h1, h2⟩ := h; exact ⟨[M], ⟨b, h1, congrArg (fun x => [x]) h2⟩, rfl, by simp⟩)) (⟨_, _, Exists.intro 0 (And.intro rfl rfl), rfl⟩) ?_; rintro v Ms ⟨bw3, rfl, rfl⟩ _; simp only [setls, setl, reduceIte, Nat.reduceEqDiff]; (repeat (first | (apply HdM.val; rfl; rfl; (· first | fail ); (· first | fail )) )))
  (refine hm_eff (cs := [0, 3]) rfl (by decide) rfl rfl (by first | exact gok_none | exact gok_run rfl rfl) (fun a ha => outc_mono (outc_call (F1 := _) (T := fun v M => ∃ (p ao : Option Addr) (c : Nat), v = .pointer (some ⟨g, 0, none⟩) ∧ M = wrH g p ao c T3 ∧ WOk g p ao c T3) (hW3 cc2 pc2 aoc2 hwc2 bw3) rfl (by (repeat (first | apply sub_nil )); done) (by first | exact fun _ h => h | (intro r hr; cases hr; done) | (simp; done) | exact fun _ h => List.mem_append_left _ h | (intro r hr; simp [hr]; done)) (by rintro v L' R' ⟨p', ao', c', rfl, rfl, _, hw'⟩; exact ⟨_, ⟨p', ao', c', rfl, rfl, hw'⟩, (by (repeat (first | (apply prm_cons; (· (repeat (first | apply sel_here )))) | apply List.Perm.nil )); done)⟩) a ha) (fun v M h => Exists.elim h fun p h => Exists.elim h fun ao h => Exists.elim h fun c h => ⟨[M, []], Exists.intro p (Exists.intro ao (Exists.intro c (And.intro h.1 (And.intro (congrArg (fun x => [x, []]) h.2.1) h.2.2)))), rfl, by simp⟩)) ((by obtain ⟨p, ao, c, h⟩ := WOk.ex g T3; exact ⟨_, _, Exists.intro p (Exists.intro ao (Exists.intro c (And.intro rfl (And.intro rfl h)))), rfl⟩)) ?_; rintro v Ms ⟨pc3, aoc3, cc3, rfl, rfl, hwc3⟩ _; simp only [setls, setl, reduceIte, Nat.reduceEqDiff]; (repeat (first | fail )))
  (refine HdM.nil ?_; intro H hH; simp only [Hp, fm, look, setl, List.flatMap_cons, List.flatMap_nil, reduceIte, Nat.reduceEqDiff, Option.getD_some, List.append_nil, List.cons_append, List.nil_append] at hH; subst hH)
  (repeat (first | ((first | (apply wo_v; rfl) ); (· first | (apply pv_ev; rfl) | (apply pv_fld; rfl) | (apply g_load; first | (apply pv_ld; rfl; (· (repeat (first | apply sel_here ))); rfl) ) )) | apply wc_region ))
  (refine wo_call (pBlocks R g pc3 aoc3 cc3 T3 l A n c hS hl hb hwc3 (by omega)) rfl (by (repeat (first | apply sub_nil | (apply sub_cons; (· (repeat (first | apply sel_here | apply sel_there)))))); done) (by first | exact fun _ h => h | (intro r hr; cases hr; done) | (simp; done) | exact fun _ h => List.mem_append_left _ h | (intro r hr; simp [hr]; done)) rfl ?_; rintro v L' R' ⟨p6, ao6, c6, rfl, rfl, rfl, hw6⟩ H' hH RR hR; simp only [List.cons_append, List.nil_append] at hH hR; subst hH; have hR := hR.symm; subst hR)
  (repeat (first | apply wo_nil ))
  exact ret0 rfl ⟨p6, ao6, c6, rfl, rfl, rfl, hw6⟩ (by (repeat (first | apply sub_nil )); done) (by first | exact fun _ h => h | (intro r hr; cases hr; done) | (simp; done) | exact fun _ h => List.mem_append_left _ h | (intro r hr; simp [hr]; done))
/-! ## Bye -/
def byT (ss : List Int) (rs : ByteArray) : ByteArray := if rs = E0 then numsS 4 ss else pad4 (numsS 4 ss ++ numsS 1 [(rs.size : Int)] ++ rs)
abbrev byB (b : Nat) (v : Value) (s : ByteArray) : It := .ob b (.cells #[v, .string s] 136 (0, 0))
def tblBy (g : Nat) (x : Int) (rs : ByteArray) (T1 T2 T3 : ByteArray) : Nat → List (List It) → Value → List (List It) → Prop := fun k Ls v Ms => match k with
  | 5 => newP 5 [[.int .u8 x]] v Ms
  | 6 => wrP0 g T1 v Ms
  | 9 => newP 9 [[.string rs]] v Ms
  | 10 => wrP0 g T2 v Ms
  | _ => wrP1 g T3 v Ms
set_option maxHeartbeats 8000000 in
theorem pBye (R : List Ro) (g : Nat) (ss : List Int) (rs : ByteArray) (A : Option Addr) (n c : Nat) (hS : SQ R 1 A n c (c32 ss)) (hl : ss.length ≤ 10000) (hb : ∀ x ∈ ss, in32 x) (hrs : rs.size ≤ 255) :
    PtF 118 R g (.agg #[.slice A n c, .string rs]) (byT ss rs) := by
  have hn : n = ss.length := by rw [← hS.len, c32_len]
  subst hn
  have hW := wR32 g 0 none none E0 ss A ss.length c R hS hb (by omega) (w0 g) (by decide)
  rw [E0_append] at hW
  unfold byT
  have zh : (numsS 4 ss).size = 4 * ss.length := numsS_size _ _
  generalize numsS 4 ss = th at hW zh ⊢
  by_cases h0 : rs = E0
  · rw [if_pos h0]
    subst h0
    refine fn_intro Try.func118 rfl Try.ntmps118 rfl (fun E => ?_)
    (repeat (first | ((first | (apply wo_v; rfl) ); (· first | (apply pv_ev; rfl) | (apply pv_fld; rfl) | (apply g_load; first | (apply pv_ld; rfl; (· (repeat (first | apply sel_here ))); rfl) ) )) | apply wo_nil | apply wc_seq | apply wc_region | (apply wo_box1; rfl; rfl; rfl; intro bx) | (apply wo_boxa; rfl; rfl; intro bx) ))
    (refine wo_call (hW) rfl (by (repeat (first | apply sub_nil | (apply sub_cons; (· (repeat (first | apply sel_here | apply sel_there)))))); done) (by first | exact fun _ h => h | (intro r hr; cases hr; done) | (simp; done) | exact fun _ h => List.mem_append_left _ h | (intro r hr; simp [hr]; done)) rfl ?_; rintro v L' R' ⟨p5, ao5, c5, rfl, rfl, rfl, hw5⟩ H' hH RR hR; simp only [List.cons_append, List.nil_append] at hH hR; subst hH; have hR := hR.symm; subst hR)
    (repeat (first | ((first | (apply wo_v; rfl) ); (· first | (apply pv_ev; rfl) | (apply pv_fld; rfl) | (apply g_load; first | (apply pv_ld; rfl; (· (repeat (first | apply sel_here | apply sel_there))); rfl) ) | (apply g_bin; first | (apply pv_neq_s; rfl; rfl) ) )) | apply wo_nil | apply wc_seq | apply wc_region | apply wc_skip | (apply wc_true; rfl) | (apply wc_false; rfl) ))
    exact ret0 rfl ⟨p5, ao5, c5, rfl, rfl, rfl, hw5⟩ (by (repeat (first | apply sub_nil )); done) (by first | exact fun _ h => h | (intro r hr; cases hr; done) | (simp; done) | exact fun _ h => List.mem_append_left _ h | (intro r hr; simp [hr]; done))
  · rw [if_neg h0]
    have h02 : rs ≠ ⟨#[]⟩ := h0
    have hzr : 0 ≤ (rs.size : Int) ∧ (rs.size : Int) ≤ 255 := by omega
    obtain ⟨T1, hT1⟩ : ∃ T1, th ++ numsS 1 [(rs.size : Int)] = T1 := ⟨_, rfl⟩
    rw [hT1]
    obtain ⟨T2, hT2⟩ : ∃ T2, T1 ++ rs = T2 := ⟨_, rfl⟩
    rw [hT2]
    obtain ⟨T3, hT3⟩ : ∃ T3, pad4 T2 = T3 := ⟨_, rfl⟩
    rw [hT3]
    have z1 : T1.size = th.size + 1 := by rw [← hT1, ByteArray.size_append, numsS_size]; rfl
    have z2 : T2.size = T1.size + rs.size := by rw [← hT2, ByteArray.size_append]
    have hW1 := fun c p ao hw bl => wU8L g c bl p ao th [(rs.size : Int)] (all1 (P := in8) hzr) (by simp) (by simp) hw (by omega)
    rw [hT1] at hW1
    have hW2 := fun c p ao hw bl => wPut g c bl 1 p ao T1 [rs] (all1B (by omega)) (by simp) hw (by omega)
    rw [show catS [rs] = rs from append_E0 rs, hT2] at hW2
    have hW3 := fun c p ao hw => wPad g c p ao T2 4 4 rfl (by omega) hw (by omega)
    rw [show T2 ++ zb (padJ T2.size 4) = pad4 T2 from rfl, hT3] at hW3
    refine fn_intro Try.func118 rfl Try.ntmps118 rfl (fun E => ?_)
    (repeat (first | ((first | (apply wo_v; rfl) ); (· first | (apply pv_ev; rfl) | (apply pv_fld; rfl) | (apply g_load; first | (apply pv_ld; rfl; (· (repeat (first | apply sel_here ))); rfl) ) )) | apply wo_nil | apply wc_seq | apply wc_region | (apply wo_box1; rfl; rfl; rfl; intro bx) | (apply wo_boxa; rfl; rfl; intro bx) ))
    obtain ⟨bp, hbp⟩ : ∃ g, g = bx := ⟨_, rfl⟩
    subst hbp
    (refine wo_call (hW) rfl (by (repeat (first | apply sub_nil | (apply sub_cons; (· (repeat (first | apply sel_here | apply sel_there)))))); done) (by first | exact fun _ h => h | (intro r hr; cases hr; done) | (simp; done) | exact fun _ h => List.mem_append_left _ h | (intro r hr; simp [hr]; done)) rfl ?_; rintro v L' R' ⟨p5, ao5, c5, rfl, rfl, rfl, hw5⟩ H' hH RR hR; simp only [List.cons_append, List.nil_append] at hH hR; subst hH; have hR := hR.symm; subst hR)
    (repeat (first | ((first | (apply wo_v; rfl) ); (· first | (apply pv_ev; rfl) | (apply pv_fld; rfl) | (apply g_load; first | (apply pv_ld; rfl; (· (repeat (first | apply sel_here | apply sel_there))); rfl) ) | (apply g_bin; first | (apply pv_neq_s; rfl; rfl) ) )) | apply wo_nil | apply wc_seq | apply wc_region | (apply wc_true; rfl) | (apply wc_false; rfl) | (apply a_dec_t; rfl; (· first | assumption | omega)) ))
    (refine wc_regM [0, 1, 2] (aslL [(5, [1]), (6, [0, 1]), (9, [2]), (10, [0, 2]), (11, [0])]) (tblBy g rs.size rs T1 T2 T3) ([byB bp (.slice A ss.length c) rs]) (fm [(0, wrH g p5 ao5 c5 th), (1, []), (2, [])]) mixed (by kernel_rfl) (by kernel_rfl) (by decide) (aslL_ok (by decide)) (by (repeat (first | (apply prm_cons; (· (repeat (first | apply sel_here | apply sel_there)))) | apply List.Perm.nil )); done) ?_; (repeat (first | (apply HdM.val; rfl; rfl; (· first | apply gok_none ); (· first | (apply pv_ev; rfl) | (apply pv_fld; rfl) | (apply g_load; first | (apply pv_ld; rfl; (· (repeat (first | apply sel_here ))); rfl) ) | (apply g_bi; first | (apply pv_len_str; rfl) ) | (apply g_conv; first | (apply a_conv; rfl; infer_instance; infer_instance; infer_instance; omega) ) )) )))
    (refine hm_eff (cs := [1]) rfl (by decide) rfl rfl (by first | exact gok_none | exact gok_run rfl rfl) (fun a ha => outc_mono (outc_bsl (by (repeat (first | apply Rws'.nil | (apply Rws'.one; rfl; rfl; rfl) )); done) rfl rfl rfl a ha) (fun v M h => by obtain ⟨b, h1, h2⟩ := h; exact ⟨[M], ⟨b, h1, congrArg (fun x => [x]) h2⟩, rfl, by simp⟩)) (⟨_, _, Exists.intro 0 (And.intro rfl rfl), rfl⟩) ?_; rintro v Ms ⟨bw1, rfl, rfl⟩ _; simp only [setls, setl, reduceIte, Nat.reduceEqDiff]; (repeat (first | (apply HdM.val; rfl; rfl; (· first | fail ); (· first | fail )) )))
    (refine hm_eff (cs := [0, 1]) rfl (by decide) rfl rfl (by first | exact gok_none | exact gok_run rfl rfl) (fun a ha => outc_mono (outc_call (F1 := _) (T := fun v M => ∃ (p ao : Option Addr) (c : Nat), v = .pointer (some ⟨g, 0, none⟩) ∧ M = wrH g p ao c T1 ∧ WOk g p ao c T1) (hW1 c5 p5 ao5 hw5 bw1) rfl (by (repeat (first | apply sub_nil )); done) (by first | exact fun _ h => h | (intro r hr; cases hr; done) | (simp; done) | exact fun _ h => List.mem_append_left _ h | (intro r hr; simp [hr]; done)) (by rintro v L' R' ⟨p', ao', c', rfl, rfl, _, hw'⟩; exact ⟨_, ⟨p', ao', c', rfl, rfl, hw'⟩, (by (repeat (first | (apply prm_cons; (· (repeat (first | apply sel_here )))) | apply List.Perm.nil )); done)⟩) a ha) (fun v M h => Exists.elim h fun p h => Exists.elim h fun ao h => Exists.elim h fun c h => ⟨[M, []], Exists.intro p (Exists.intro ao (Exists.intro c (And.intro h.1 (And.intro (congrArg (fun x => [x, []]) h.2.1) h.2.2)))), rfl, by simp⟩)) ((by obtain ⟨p, ao, c, h⟩ := WOk.ex g T1; exact ⟨_, _, Exists.intro p (Exists.intro ao (Exists.intro c (And.intro rfl (And.intro rfl h)))), rfl⟩)) ?_; rintro v Ms ⟨pc1, aoc1, cc1, rfl, rfl, hwc1⟩ _; simp only [setls, setl, reduceIte, Nat.reduceEqDiff]; (repeat (first | (apply HdM.val; rfl; rfl; (· first | apply gok_none ); (· first | (apply pv_ev; rfl) | (apply pv_fld; rfl) | (apply g_load; first | (apply pv_ld; rfl; (· (repeat (first | apply sel_here ))); rfl) ) )) )))
    (refine hm_eff (cs := [2]) rfl (by decide) rfl rfl (by first | exact gok_none | exact gok_run rfl rfl) (fun a ha => outc_mono (outc_bsl (by (repeat (first | apply Rws'.nil | (apply Rws'.one; rfl; rfl; rfl) )); done) rfl rfl rfl a ha) (fun v M h => by obtain ⟨b, h1, h2⟩ := h; exact ⟨[M], ⟨b, h1, congrArg (fun x => [x]) h2⟩, rfl, by simp⟩)) (⟨_, _, Exists.intro 0 (And.intro rfl rfl), rfl⟩) ?_; rintro v Ms ⟨bw2, rfl, rfl⟩ _; simp only [setls, setl, reduceIte, Nat.reduceEqDiff]; (repeat (first | (apply HdM.val; rfl; rfl; (· first | fail ); (· first | fail )) )))
    (refine hm_eff (cs := [0, 2]) rfl (by decide) rfl rfl (by first | exact gok_none | exact gok_run rfl rfl) (fun a ha => outc_mono (outc_call (F1 := _) (T := fun v M => ∃ (p ao : Option Addr) (c : Nat), v = .pointer (some ⟨g, 0, none⟩) ∧ M = wrH g p ao c T2 ∧ WOk g p ao c T2) (hW2 cc1 pc1 aoc1 hwc1 bw2) rfl (by (repeat (first | apply sub_nil )); done) (by first | exact fun _ h => h | (intro r hr; cases hr; done) | (simp; done) | exact fun _ h => List.mem_append_left _ h | (intro r hr; simp [hr]; done)) (by rintro v L' R' ⟨p', ao', c', rfl, rfl, _, hw'⟩; exact ⟨_, ⟨p', ao', c', rfl, rfl, hw'⟩, (by (repeat (first | (apply prm_cons; (· (repeat (first | apply sel_here )))) | apply List.Perm.nil )); done)⟩) a ha) (fun v M h => Exists.elim h fun p h => Exists.elim h fun ao h => Exists.elim h fun c h => ⟨[M, []], Exists.intro p (Exists.intro ao (Exists.intro c (And.intro h.1 (And.intro (congrArg (fun x => [x, []]) h.2.1) h.2.2)))), rfl, by simp⟩)) ((by obtain ⟨p, ao, c, h⟩ := WOk.ex g T2; exact ⟨_, _, Exists.intro p (Exists.intro ao (Exists.intro c (And.intro rfl (And.intro rfl h)))), rfl⟩)) ?_; rintro v Ms ⟨pc2, aoc2, cc2, rfl, rfl, hwc2⟩ _; simp only [setls, setl, reduceIte, Nat.reduceEqDiff]; (repeat (first | (apply HdM.val; rfl; rfl; (· first | fail ); (· first | fail )) )))
    (refine hm_eff (cs := [0]) rfl (by decide) rfl rfl (by first | exact gok_none | exact gok_run rfl rfl) (fun a ha => outc_mono (outc_call (F1 := _) (T := fun v M => ∃ (p ao : Option Addr) (c : Nat), v = .pointer (some ⟨g, 0, none⟩) ∧ M = wrH g p ao c T3 ∧ WOk g p ao c T3) (hW3 cc2 pc2 aoc2 hwc2) rfl (by (repeat (first | apply sub_nil )); done) (by first | exact fun _ h => h | (intro r hr; cases hr; done) | (simp; done) | exact fun _ h => List.mem_append_left _ h | (intro r hr; simp [hr]; done)) (by rintro v L' R' ⟨p', ao', c', rfl, rfl, _, hw'⟩; exact ⟨_, ⟨p', ao', c', rfl, rfl, hw'⟩, (by (repeat (first | (apply prm_cons; (· (repeat (first | apply sel_here )))) | apply List.Perm.nil )); done)⟩) a ha) (fun v M h => by obtain ⟨p, ao, c, h1, h2, h3⟩ := h; exact ⟨[M], ⟨p, ao, c, h1, congrArg (fun x => [x]) h2, h3⟩, rfl, by simp⟩)) ((by obtain ⟨p, ao, c, h⟩ := WOk.ex g T3; exact ⟨_, _, Exists.intro p (Exists.intro ao (Exists.intro c (And.intro rfl (And.intro rfl h)))), rfl⟩)) ?_; rintro v Ms ⟨pc3, aoc3, cc3, rfl, rfl, hwc3⟩ _; simp only [setls, setl, reduceIte, Nat.reduceEqDiff]; (repeat (first | fail )))
    (refine HdM.nil ?_; intro H hH; simp only [Hp, fm, look, setl, List.flatMap_cons, List.flatMap_nil, reduceIte, Nat.reduceEqDiff, Option.getD_some, List.append_nil, List.cons_append, List.nil_append] at hH; subst hH)
    (repeat (first | fail ))
    exact ret0 rfl ⟨pc3, aoc3, cc3, rfl, rfl, rfl, hwc3⟩ (by (repeat (first | apply sub_nil | (apply sub_cons; (· (repeat (first | apply sel_here | apply sel_there)))))); done) (by first | exact fun _ h => h | (intro r hr; cases hr; done) | (simp; done) | exact fun _ h => List.mem_append_left _ h | (intro r hr; simp [hr]; done))
end Go.Proofs.Yteaccbbmphcmnaa

/-
  Package rtcp: what packets write: Sdes.
-/
namespace Go.Proofs.Yteaccbbmphcmnaa
set_option linter.unusedSimpArgs false
set_option linter.unusedVariables false
open Go.RowKit
attribute [local irreducible] Pv WO WC Fn
set_option maxRecDepth 100000
attribute [local irreducible] ByteArray.extract

def itT (x : Int × ByteArray) : ByteArray := numsS 1 [x.1, (x.2.size : Int)] ++ x.2
def itsT : List (Int × ByteArray) → ByteArray
  | [] => E0
  | x :: l => itT x ++ itsT l
theorem itsT_app : ∀ a b, itsT (a ++ b) = itsT a ++ itsT b
  | [], b => (E0_append _).symm
  | x :: a, b => by
    show itT x ++ itsT (a ++ b) = (itT x ++ itsT a) ++ itsT b
    rw [itsT_app a b, ByteArray.append_assoc]
theorem itsT_take {l : List (Int × ByteArray)} {j : Nat} {x : Int × ByteArray} (h : l[j]? = some x) : itsT (l.take (j + 1)) = itsT (l.take j) ++ itT x := by
  rw [List.take_add_one, h, itsT_app]
  show itsT (l.take j) ++ (itT x ++ E0) = _
  rw [append_E0]
theorem itsT_size : ∀ {l : List (Int × ByteArray)}, (∀ x ∈ l, x.2.size ≤ 255) → (itsT l).size ≤ 257 * l.length
  | [], _ => Nat.le_refl _
  | x :: l, h => by
    have h1 := h x (.head _)
    have h2 := itsT_size (fun y hy => h y (.tail _ hy))
    show (itT x ++ itsT l).size ≤ _
    unfold itT
    simp only [ByteArray.size_append, numsS_size, List.length_cons, List.length_nil, Nat.mul_add]; omega
def chT (c : Int × List (Int × ByteArray)) : ByteArray := pad4 (numsS 4 [c.1] ++ itsT c.2 ++ numsS 1 [0])
def chsT : List (Int × List (Int × ByteArray)) → ByteArray
  | [] => E0
  | x :: l => chT x ++ chsT l
theorem chsT_app : ∀ a b, chsT (a ++ b) = chsT a ++ chsT b
  | [], b => (E0_append _).symm
  | x :: a, b => by
    show chT x ++ chsT (a ++ b) = (chT x ++ chsT a) ++ chsT b
    rw [chsT_app a b, ByteArray.append_assoc]
theorem chsT_take {l : List (Int × List (Int × ByteArray))} {j : Nat} {x : Int × List (Int × ByteArray)} (h : l[j]? = some x) : chsT (l.take (j + 1)) = chsT (l.take j) ++ chT x := by
  rw [List.take_add_one, h, chsT_app]
  show chsT (l.take j) ++ (chT x ++ E0) = _
  rw [append_E0]
theorem chsT_mod : ∀ l, (chsT l).size % 4 = 0
  | [] => rfl
  | x :: l => by
    have h1 := chsT_mod l
    have h2 := pad4_mod (numsS 4 [x.1] ++ itsT x.2 ++ numsS 1 [0])
    show (chT x ++ chsT l).size % 4 = 0
    rw [ByteArray.size_append]; unfold chT; omega
theorem pad4_behind {s : ByteArray} (h : s.size % 4 = 0) (z : ByteArray) : pad4 (s ++ z) = s ++ pad4 z := by
  unfold pad4
  have : padJ (s ++ z).size 4 = padJ z.size 4 := by unfold padJ; rw [ByteArray.size_append]; omega
  rw [this, ByteArray.append_assoc]
theorem chT_size {c : Int × List (Int × ByteArray)} (h : ∀ x ∈ c.2, x.2.size ≤ 255) : (chT c).size ≤ 8 + 257 * c.2.length := by
  have h1 := itsT_size h
  have h2 := pad4_size (numsS 4 [c.1] ++ itsT c.2 ++ numsS 1 [0])
  unfold chT
  simp only [ByteArray.size_append, numsS_size, List.length_cons, List.length_nil] at h2
  omega
theorem chsT_size {m : Nat} : ∀ {l : List (Int × List (Int × ByteArray))}, (∀ c ∈ l, c.2.length ≤ m ∧ ∀ x ∈ c.2, x.2.size ≤ 255) → (chsT l).size ≤ (8 + 257 * m) * l.length
  | [], _ => Nat.le_refl _
  | c :: l, h => by
    have h0 := h c (.head _)
    have h1 := chT_size h0.2
    have h2 := chsT_size (fun y hy => h y (.tail _ hy))
    have h3 : 257 * c.2.length ≤ 257 * m := Nat.mul_le_mul_left _ h0.1
    show (chT c ++ chsT l).size ≤ _
    rw [ByteArray.size_append, List.length_cons, Nat.mul_add]; omega
abbrev itB (b : Nat) (k : Int) (s : ByteArray) : It := .ob b (.cells #[.int .u8 k, .string s] 158 (0, 0))
abbrev chB (b : Nat) (ss : Int) (v : Value) : It := .ob b (.cells #[.int .u32 ss, v] 152 (0, 0))
abbrev sdB (b : Nat) (v : Value) : It := .ob b (.cells #[v] 157 (0, 0))
def tblIt (g : Nat) (kk x : Int) (tx : ByteArray) (T1 T2 : ByteArray) : Nat → List (List It) → Value → List (List It) → Prop := fun k Ls v Ms => match k with
  | 7 => newP 5 [[.int .u8 kk], [.int .u8 x]] v Ms
  | 8 => wrP0 g T1 v Ms
  | 11 => newP 9 [[.string tx]] v Ms
  | _ => wrP0 g T2 v Ms
set_option maxHeartbeats 16000000 in
theorem pSdes (R : List Ro) (g : Nat) (l : List (Int × List (Int × ByteArray))) (rows : List (List Value)) (A : Option Addr) (n c m : Nat) (hS : SQ R 2 A n c rows) (hV : ChsV R l rows) (hl : l.length ≤ 100) (hm : m ≤ 1000) (hb : ∀ c ∈ l, in32 c.1 ∧ c.2.length ≤ m ∧ ∀ x ∈ c.2, in8 x.1 ∧ x.2.size ≤ 255) :
    PtF 120 R g (.agg #[.slice A n c]) (chsT l) := by
  have hn : n = l.length := by rw [← hS.len, hV.1]
  refine fn_intro Try.func120 rfl Try.ntmps120 rfl (fun E => ?_)
  (repeat (first | ((first | (apply wo_v; rfl) ); (· first | (apply pv_ev; rfl) | (apply pv_fld; rfl) | (apply g_load; first | (apply pv_ld; rfl; (· (repeat (first | apply sel_here ))); rfl) ) | (apply g_bi; first | (apply pv_len_sl; rfl) ) )) | apply wo_nil | apply wc_seq | apply wc_region | (apply wo_box1; rfl; rfl; rfl; intro bx) | (apply wo_boxa; rfl; rfl; intro bx) ))
  obtain ⟨bp, hbp⟩ : ∃ g, g = bx := ⟨_, rfl⟩
  subst hbp
  refine wc_own0 5 1 ?_
  refine wc_block ?_
  refine wc_loop' (fun q st => ∃ (i : Nat) (p ao : Option Addr) (c' : Nat) (s : ByteArray), q = l.length - i ∧ i ≤ l.length ∧ s = chsT (l.take i) ∧ WOk g p ao c' s ∧ st = ⟨[(1, .pointer (some ⟨g, 0, none⟩)), (9, .slice A n c), (10, .int .i64 n), (11, .int .i64 i)], wrH g p ao c' s ++ [sdB bp (.slice A n c)], R⟩) ⟨0, none, none, 0, E0, rfl, Nat.zero_le _, rfl, w0 g, rfl⟩ (wk_mk (by (repeat (first | apply wkf_nil | (apply wkf_cons; rfl))); done) (by (repeat (first | apply sub_nil | (apply sub_cons; (· (repeat (first | apply sel_here | apply sel_there)))))); done) (by first | exact fun _ h => h | (intro r hr; cases hr; done) | (simp; done) | exact fun _ h => List.mem_append_left _ h | (intro r hr; simp [hr]; done))) ?_
  rintro q st ⟨i, p, ao, c', s, rfl, hi, hs, hw, rfl⟩
  by_cases hlt : i < l.length
  · obtain ⟨x, hx⟩ : ∃ x, l[i]? = some x := ⟨_, List.getElem?_eq_getElem hlt⟩
    obtain ⟨row, hrow, Ai, ni, ci, rfl, hSi⟩ := hV.2 i x hx
    obtain ⟨k1, k2, k3⟩ := hb _ (List.mem_of_getElem? hx)
    have hnx := chsT_take hx
    have hsm := chsT_mod (l.take i)
    have hsz : s.size ≤ 257008 * i := by
      have h1 := chsT_size (l := l.take i) (m := m) (fun c hc => ⟨(hb c (List.mem_of_mem_take hc)).2.1, fun x hx => ((hb c (List.mem_of_mem_take hc)).2.2 x hx).2⟩)
      rw [← hs, List.length_take] at h1
      have h2 : (8 + 257 * m) * min i l.length ≤ 257008 * i := Nat.mul_le_mul (by omega) (by omega)
      omega
    rw [← hs] at hsm
    have hci := chT_size (c := x) (fun y hy => (k3 y hy).2)
    have hpb := pad4_behind hsm (numsS 4 [x.1] ++ itsT x.2 ++ numsS 1 [0])
    rw [show pad4 (numsS 4 [x.1] ++ itsT x.2 ++ numsS 1 [0]) = chT x from rfl] at hpb
    obtain ⟨ss, its⟩ := x
    dsimp only at hrow hSi k1 k2 k3 hnx hpb hci
    have hni : ni = its.length := by rw [← hSi.len, itmV_len]
    subst hni
    obtain ⟨a0, o0, rfl, hmem⟩ := hS.pos (by omega)
    obtain ⟨T0, hT0⟩ : ∃ T0, s ++ numsS 4 [ss] = T0 := ⟨_, rfl⟩
    have z0 : T0.size = s.size + 4 := by rw [← hT0, ByteArray.size_append, numsS_size]; rfl
    have hW0 := fun bl => wU32 g c' bl 1 p ao s [ss] (all1 (P := in32) k1) (by simp) hw (by omega)
    rw [hT0] at hW0
    (repeat (first | ((first | (apply wo_v; rfl) ); (· first | (apply pv_ev; rfl) )) | apply wo_nil | apply wc_seq | apply wc_region | apply wc_skip | (apply wc_true; rfl) | (apply wc_false; rfl) | (apply a_dec_t; rfl; (· first | assumption | omega)) ))
    refine wc_block ?_
    (repeat (first | ((first | (apply wo_v; rfl) ); (· first | (apply pv_ev; rfl) | (apply pv_fld; rfl) | (apply g_load; first | (apply pv_ld; rfl; (· (repeat (first | apply sel_here ))); rfl) | (apply pv_lda; rfl; (· (repeat (first | apply sel_there))); (· (repeat (first | fail )))) | (apply pv_ld_owna; rfl; (· (repeat (first | apply sel_there))); (· assumption)) | (apply pv_ld_roa; rfl; (· (first | assumption )); (· assumption))) | (apply g_idx; first | (apply pv_idx; rfl; rfl; omega) ) )) | apply wo_nil | apply wc_seq | apply wc_region | (apply wo_alloc; rfl; intro bx) | (apply wo_bsl; (· (repeat (first | apply Rws'.nil | (apply Rws'.one; rfl; rfl; rfl) ))); rfl; rfl; rfl; rfl; intro bx) | (apply wo_sta; rfl; rfl; rfl; rfl; (· (repeat (first | apply sel_here ))); (· (repeat (first | apply LayAt.nil | apply LayAt.here ))); rfl) ))
    rename_i bw
    obtain ⟨bc, hbc⟩ : ∃ g, g = bw := ⟨_, rfl⟩
    subst hbc
    (refine wo_call (hW0 _) rfl (by (repeat (first | apply sub_nil | (apply sub_cons; (· (repeat (first | apply sel_here | apply sel_there)))))); done) (by first | exact fun _ h => h | (intro r hr; cases hr; done) | (simp; done) | exact fun _ h => List.mem_append_left _ h | (intro r hr; simp [hr]; done)) rfl ?_; rintro v L' R' ⟨p5, ao5, c5, rfl, rfl, rfl, hw5⟩ H' hH RR hR; simp only [List.cons_append, List.nil_append] at hH hR; subst hH; have hR := hR.symm; subst hR)
    (repeat (first | ((first | (apply wo_v; rfl) ); (· first | (apply pv_ev; rfl) | (apply pv_fld; rfl) | (apply g_load; first | (apply pv_ld; rfl; (· (repeat (first | apply sel_here | apply sel_there))); rfl) ) | (apply g_bi; first | (apply pv_len_sl; rfl) ) )) | apply wo_nil | apply wc_seq | apply wc_region ))
    refine wc_join0 (fun st => ∃ p ao c', st = ⟨[(1, .pointer (some ⟨g, 0, none⟩)), (9, .slice (some ⟨a0, o0, none⟩) n c), (10, .int .i64 n), (11, .int .i64 i)], wrH g p ao c' (T0 ++ itsT its) ++ [sdB bp (.slice (some ⟨a0, o0, none⟩) n c)], R⟩ ∧ WOk g p ao c' (T0 ++ itsT its)) ?_ ?_
    · refine wc_block ?_
      refine wc_loop' (fun q st => ∃ (j : Nat) (p ao : Option Addr) (c' : Nat) (u : ByteArray), q = its.length - j ∧ j ≤ its.length ∧ u = T0 ++ itsT (its.take j) ∧ WOk g p ao c' u ∧ st = ⟨[(1, .pointer (some ⟨g, 0, none⟩)), (9, .slice (some ⟨a0, o0, none⟩) n c), (10, .int .i64 n), (11, .int .i64 i), (21, .slice Ai its.length ci), (22, .int .i64 its.length), (23, .int .i64 j)], wrH g p ao c' u ++ [chB bc ss (.slice Ai its.length ci), sdB bp (.slice (some ⟨a0, o0, none⟩) n c)], R⟩) ⟨0, p5, ao5, c5, T0, rfl, Nat.zero_le _, (append_E0 _).symm, hw5, rfl⟩ (wk_mk (by (repeat (first | apply wkf_nil | (apply wkf_cons; rfl))); done) (by (repeat (first | apply sub_nil )); done) (by first | exact fun _ h => h | (intro r hr; cases hr; done) | (simp; done) | exact fun _ h => List.mem_append_left _ h | (intro r hr; simp [hr]; done))) ?_
      clear hw5 hw hW0 p5 ao5 c5 p ao c' hrow
      rintro q st ⟨j, p, ao, c', u, rfl, hj, hu, hw, rfl⟩
      by_cases hlj : j < its.length
      · obtain ⟨y, hy⟩ : ∃ y, its[j]? = some y := ⟨_, List.getElem?_eq_getElem hlj⟩
        have hr := itmV_at hy
        obtain ⟨y1, y2⟩ := k3 _ (List.mem_of_getElem? hy)
        have hny := itsT_take hy
        have huz : u.size ≤ T0.size + 257 * its.length := by
          have h1 := itsT_size (l := its.take j) (fun y hy => (k3 y (List.mem_of_mem_take hy)).2)
          have h2 : 257 * (its.take j).length ≤ 257 * its.length := Nat.mul_le_mul_left _ (by rw [List.length_take]; omega)
          rw [hu, ByteArray.size_append]; omega
        obtain ⟨k, tx⟩ := y
        unfold itT at hny
        dsimp only at hr y1 y2 hny
        have y3 : 0 ≤ (tx.size : Int) ∧ (tx.size : Int) ≤ 255 := by omega
        obtain ⟨T1, hT1⟩ : ∃ T1, u ++ numsS 1 [k, (tx.size : Int)] = T1 := ⟨_, rfl⟩
        obtain ⟨T2, hT2⟩ : ∃ T2, T1 ++ tx = T2 := ⟨_, rfl⟩
        have z1 : T1.size = u.size + 2 := by rw [← hT1, ByteArray.size_append, numsS_size]; rfl
        have hnx2 : T2 = T0 ++ itsT (its.take (j + 1)) := by rw [hny, ← hT2, ← hT1, hu]; simp only [ByteArray.append_assoc]
        obtain ⟨ba, oa, rfl, hmi⟩ := hSi.pos (by omega)
        have hW1 := fun c p ao hw bl => wU8L g c bl p ao u [k, (tx.size : Int)] (all2 (P := in8) y1 y3) (by simp) (by simp) hw (by omega)
        rw [hT1] at hW1
        have hW2 := fun c p ao hw bl => wPut g c bl 1 p ao T1 [tx] (all1B (by omega)) (by simp) hw (by omega)
        rw [show catS [tx] = tx from append_E0 tx, hT2] at hW2
        (repeat (first | ((first | (apply wo_v; rfl) ); (· first | (apply pv_ev; rfl) )) | apply wo_nil | apply wc_seq | apply wc_region | apply wc_skip | (apply wc_true; rfl) | (apply wc_false; rfl) | (apply a_dec_t; rfl; (· first | assumption | omega)) ))
        refine wc_block ?_
        (repeat (first | ((first | (apply wo_v; rfl) ); (· first | (apply pv_ev; rfl) | (apply g_load; first | (apply pv_lda; rfl; (· (repeat (first | apply sel_there))); (· (repeat (first | fail )))) | (apply pv_ld_owna; rfl; (· (repeat (first | apply sel_there))); (· assumption)) | (apply pv_ld_roa; rfl; (· (first | assumption )); (· assumption))) | (apply g_idx; first | (apply pv_idx; rfl; rfl; omega) ) )) | apply wo_nil | apply wc_seq | apply wc_region | (apply wo_alloc; rfl; intro bx) | (apply wo_sta; rfl; rfl; rfl; rfl; (· (repeat (first | apply sel_here ))); (· (repeat (first | apply LayAt.nil | apply LayAt.here ))); rfl) ))
        obtain ⟨bi, hbi⟩ : ∃ g, g = bx := ⟨_, rfl⟩
        subst hbi
        (refine wc_regM [0, 1, 2] (aslL [(7, [1]), (8, [0, 1]), (11, [2]), (12, [0, 2])]) (tblIt g k tx.size tx T1 T2) ([itB bi k tx, chB bc ss (.slice (some ⟨ba, oa, none⟩) its.length ci), sdB bp (.slice (some ⟨a0, o0, none⟩) n c)]) (fm [(0, wrH g p ao c' u), (1, []), (2, [])]) mixed (by kernel_rfl) (by kernel_rfl) (by decide) (aslL_ok (by decide)) (by (repeat (first | (apply prm_cons; (· (repeat (first | apply sel_here | apply sel_there)))) | apply List.Perm.nil )); done) ?_; (repeat (first | (apply HdM.val; rfl; rfl; (· first | apply gok_none ); (· first | (apply pv_ev; rfl) | (apply pv_fld; rfl) | (apply g_load; first | (apply pv_ld; rfl; (· (repeat (first | apply sel_here ))); rfl) ) | (apply g_bi; first | (apply pv_len_str; rfl) ) | (apply g_conv; first | (apply a_conv; rfl; infer_instance; infer_instance; infer_instance; omega) ) )) )))
        (refine hm_eff (cs := [1]) rfl (by decide) rfl rfl (by first | exact gok_none | exact gok_run rfl rfl) (fun a ha => outc_mono (outc_bsl (by (repeat (first | apply Rws'.nil | (apply Rws'.one; rfl; rfl; rfl) )); done) rfl rfl rfl a ha) (fun v M h => by obtain ⟨b, h1, h2⟩ := h; exact ⟨[M], ⟨b, h1, congrArg (fun x => [x]) h2⟩, rfl, by simp⟩)) (⟨_, _, Exists.intro 0 (And.intro rfl rfl), rfl⟩) ?_; rintro v Ms ⟨bw1, rfl, rfl⟩ _; simp only [setls, setl, reduceIte, Nat.reduceEqDiff]; (repeat (first | (apply HdM.val; rfl; rfl; (· first | fail ); (· first | fail )) )))
        (refine hm_eff (cs := [0, 1]) rfl (by decide) rfl rfl (by first | exact gok_none | exact gok_run rfl rfl) (fun a ha => outc_mono (outc_call (F1 := _) (T := fun v M => ∃ (p ao : Option Addr) (c : Nat), v = .pointer (some ⟨g, 0, none⟩) ∧ M = wrH g p ao c T1 ∧ WOk g p ao c T1) (hW1 c' p ao hw bw1) rfl (by (repeat (first | apply sub_nil )); done) (by first | exact fun _ h => h | (intro r hr; cases hr; done) | (simp; done) | exact fun _ h => List.mem_append_left _ h | (intro r hr; simp [hr]; done)) (by rintro v L' R' ⟨p', ao', c', rfl, rfl, _, hw'⟩; exact ⟨_, ⟨p', ao', c', rfl, rfl, hw'⟩, (by (repeat (first | (apply prm_cons; (· (repeat (first | apply sel_here )))) | apply List.Perm.nil )); done)⟩) a ha) (fun v M h => Exists.elim h fun p h => Exists.elim h fun ao h => Exists.elim h fun c h => ⟨[M, []], Exists.intro p (Exists.intro ao (Exists.intro c (And.intro h.1 (And.intro (congrArg (fun x => [x, []]) h.2.1) h.2.2)))), rfl, by simp⟩)) ((by obtain ⟨p, ao, c, h⟩ := WOk.ex g T1; exact ⟨_, _, Exists.intro p (Exists.intro ao (Exists.intro c (And.intro rfl (And.intro rfl h)))), rfl⟩)) ?_; rintro v Ms ⟨pc1, aoc1, cc1, rfl, rfl, hwc1⟩ _; simp only [setls, setl, reduceIte, Nat.reduceEqDiff]; (repeat (first | (apply HdM.val; rfl; rfl; (· first | apply gok_none ); (· first | (apply pv_ev; rfl) | (apply pv_fld; rfl) | (apply g_load; first | (apply pv_ld; rfl; (· (repeat (first | apply sel_here ))); rfl) ) )) )))
        (refine hm_eff (cs := [2]) rfl (by decide) rfl rfl (by first | exact gok_none | exact gok_run rfl rfl) (fun a ha => outc_mono (outc_bsl (by (repeat (first | apply Rws'.nil | (apply Rws'.one; rfl; rfl; rfl) )); done) rfl rfl rfl a ha) (fun v M h => by obtain ⟨b, h1, h2⟩ := h; exact ⟨[M], ⟨b, h1, congrArg (fun x => [x]) h2⟩, rfl, by simp⟩)) (⟨_, _, Exists.intro 0 (And.intro rfl rfl), rfl⟩) ?_; rintro v Ms ⟨bw2, rfl, rfl⟩ _; simp only [setls, setl, reduceIte, Nat.reduceEqDiff]; (repeat (first | (apply HdM.val; rfl; rfl; (· first | fail ); (· first | fail )) )))
        (refine hm_eff (cs := [0, 2]) rfl (by decide) rfl rfl (by first | exact gok_none | exact gok_run rfl rfl) (fun a ha => outc_mono (outc_call (F1 := _) (T := fun v M => ∃ (p ao : Option Addr) (c : Nat), v = .pointer (some ⟨g, 0, none⟩) ∧ M = wrH g p ao c T2 ∧ WOk g p ao c T2) (hW2 cc1 pc1 aoc1 hwc1 bw2) rfl (by (repeat (first | apply sub_nil )); done) (by first | exact fun _ h => h | (intro r hr; cases hr; done) | (simp; done) | exact fun _ h => List.mem_append_left _ h | (intro r hr; simp [hr]; done)) (by rintro v L' R' ⟨p', ao', c', rfl, rfl, _, hw'⟩; exact ⟨_, ⟨p', ao', c', rfl, rfl, hw'⟩, (by (repeat (first | (apply prm_cons; (· (repeat (first | apply sel_here )))) | apply List.Perm.nil )); done)⟩) a ha) (fun v M h => Exists.elim h fun p h => Exists.elim h fun ao h => Exists.elim h fun c h => ⟨[M, []], Exists.intro p (Exists.intro ao (Exists.intro c (And.intro h.1 (And.intro (congrArg (fun x => [x, []]) h.2.1) h.2.2)))), rfl, by simp⟩)) ((by obtain ⟨p, ao, c, h⟩ := WOk.ex g T2; exact ⟨_, _, Exists.intro p (Exists.intro ao (Exists.intro c (And.intro rfl (And.intro rfl h)))), rfl⟩)) ?_; rintro v Ms ⟨pc2, aoc2, cc2, rfl, rfl, hwc2⟩ _; simp only [setls, setl, reduceIte, Nat.reduceEqDiff]; (repeat (first | fail )))
        (refine HdM.nil ?_; intro H hH; simp only [Hp, fm, look, setl, List.flatMap_cons, List.flatMap_nil, reduceIte, Nat.reduceEqDiff, Option.getD_some, List.append_nil, List.cons_append, List.nil_append] at hH; subst hH)
        (repeat (first | ((first | (apply wo_v; rfl) ); (· first | (apply pv_ev; rfl) | (apply g_bin; first | (apply a_add; rfl; rfl; infer_instance; omega) ) )) | apply wo_nil | apply wc_region ))
        exact loop_end ⟨j + 1, pc2, aoc2, cc2, T2, rfl, by omega, hnx2, hwc2, rfl⟩ (by omega) (wk_mk (by (repeat (first | apply wkf_nil | (apply wkf_cons; rfl))); done) (by (repeat (first | apply sub_nil | (apply sub_cons; (· (repeat (first | apply sel_here | apply sel_there)))))); done) (by first | exact fun _ h => h | (intro r hr; cases hr; done) | (simp; done) | exact fun _ h => List.mem_append_left _ h | (intro r hr; simp [hr]; done)))
      · have e : j = its.length := by omega
        subst e
        rw [List.take_length] at hu
        subst hu
        (repeat (first | ((first | (apply wo_v; rfl) ); (· first | (apply pv_ev; rfl) )) | apply wo_nil | apply wc_seq | apply wc_region | (apply wc_exit; rfl) | (apply wc_true; rfl) | (apply wc_false; rfl) | (apply a_dec_t; rfl; (· first | assumption | omega)) | (apply a_dec_f; rfl; (· first | assumption | omega)) ))
        exact cut_end ⟨p, ao, c', rfl, hw⟩ (wk_mk (by (repeat (first | apply wkf_nil | (apply wkf_cons; rfl))); done) (by (repeat (first | apply sub_nil | (apply sub_cons; (· (repeat (first | apply sel_here | apply sel_there)))))); done) (by first | exact fun _ h => h | (intro r hr; cases hr; done) | (simp; done) | exact fun _ h => List.mem_append_left _ h | (intro r hr; simp [hr]; done)))
    rintro st ⟨p6, ao6, c6, rfl, hw6⟩
    have z6 : (T0 ++ itsT its).size ≤ T0.size + 257 * its.length := by
      have h1 := itsT_size (l := its) (fun y hy => (k3 y hy).2)
      rw [ByteArray.size_append]; omega
    have hfin : pad4 ((T0 ++ itsT its) ++ numsS 1 [0]) = chsT (l.take (i + 1)) := by
      rw [hnx, ← hs, ← hpb, ← hT0]; simp only [ByteArray.append_assoc]
    generalize T0 ++ itsT its = T3 at *
    obtain ⟨T4, hT4⟩ : ∃ T4, T3 ++ numsS 1 [0] = T4 := ⟨_, rfl⟩
    have z4 : T4.size = T3.size + 1 := by rw [← hT4, ByteArray.size_append, numsS_size]; rfl
    have hW3 := fun bl => wU8L g c6 bl p6 ao6 T3 [0] (all1 (P := in8) in8_0) (by simp) (by simp) hw6 (by omega)
    rw [hT4] at hW3 hfin
    have hW4 := fun c p ao hw => wPad g c p ao T4 4 4 rfl (by omega) hw (by omega)
    rw [show T4 ++ zb (padJ T4.size 4) = pad4 T4 from rfl, hfin] at hW4
    (repeat (first | ((first | (apply wo_v; rfl) ); (· first | (apply pv_ev; rfl) )) | apply wc_region | (apply wo_bsl; (· (repeat (first | apply Rws'.nil | (apply Rws'.one; rfl; rfl; rfl) ))); rfl; rfl; rfl; rfl; intro bx) ))
    (refine wo_call (hW3 _) rfl (by (repeat (first | apply sub_nil | (apply sub_cons; (· (repeat (first | apply sel_here | apply sel_there)))))); done) (by first | exact fun _ h => h | (intro r hr; cases hr; done) | (simp; done) | exact fun _ h => List.mem_append_left _ h | (intro r hr; simp [hr]; done)) rfl ?_; rintro v L' R' ⟨p7, ao7, c7, rfl, rfl, rfl, hw7⟩ H' hH RR hR; simp only [List.cons_append, List.nil_append] at hH hR; subst hH; have hR := hR.symm; subst hR)
    (repeat (first | ((first | (apply wo_v; rfl) ); (· first | (apply pv_ev; rfl) )) ))
    (refine wo_call (hW4 c7 p7 ao7 hw7) rfl (by (repeat (first | apply sub_nil )); done) (by first | exact fun _ h => h | (intro r hr; cases hr; done) | (simp; done) | exact fun _ h => List.mem_append_left _ h | (intro r hr; simp [hr]; done)) rfl ?_; rintro v L' R' ⟨p8, ao8, c8, rfl, rfl, rfl, hw8⟩ H' hH RR hR; simp only [List.cons_append, List.nil_append] at hH hR; subst hH; have hR := hR.symm; subst hR)
    (repeat (first | ((first | (apply wo_v; rfl) ); (· first | (apply pv_ev; rfl) | (apply g_bin; first | (apply a_add; rfl; rfl; infer_instance; omega) ) )) | apply wo_nil | apply wc_region ))
    exact loop_end ⟨i + 1, p8, ao8, c8, _, rfl, by omega, rfl, hw8, rfl⟩ (by omega) (wk_mk (by (repeat (first | apply wkf_nil | (apply wkf_cons; rfl))); done) (by (repeat (first | apply sub_nil )); done) (by first | exact fun _ h => h | (intro r hr; cases hr; done) | (simp; done) | exact fun _ h => List.mem_append_left _ h | (intro r hr; simp [hr]; done)))
  · have e : i = l.length := by omega
    subst e
    rw [List.take_length] at hs
    subst hs
    (repeat (first | ((first | (apply wo_v; rfl) ); (· first | (apply pv_ev; rfl) )) | apply wo_nil | apply wc_seq | apply wc_region | (apply wc_exit; rfl) | (apply wc_true; rfl) | (apply wc_false; rfl) | (apply a_dec_t; rfl; (· first | assumption | omega)) | (apply a_dec_f; rfl; (· first | assumption | omega)) ))
    exact ret0 rfl ⟨p, ao, c', rfl, rfl, rfl, hw⟩ (by (repeat (first | apply sub_nil )); done) (by first | exact fun _ h => h | (intro r hr; cases hr; done) | (simp; done) | exact fun _ h => List.mem_append_left _ h | (intro r hr; simp [hr]; done))
end Go.Proofs.Yteaccbbmphcmnaa

/-
  Package rtcp: what packets write: Remb.
-/
namespace Go.Proofs.Yteaccbbmphcmnaa
set_option linter.unusedSimpArgs false
set_option linter.unusedVariables false
open Go.RowKit
attribute [local irreducible] Pv WO WC Fn
set_option maxRecDepth 100000
attribute [local irreducible] ByteArray.extract

def lenT : ByteArray := ⟨(([0, 1, 2, 2, 3, 3, 3, 3, 4, 4, 4, 4, 4, 4, 4, 4, 5, 5, 5, 5, 5, 5, 5, 5, 5, 5, 5, 5, 5, 5, 5, 5, 6, 6, 6, 6, 6, 6, 6, 6, 6, 6, 6, 6, 6, 6, 6, 6, 6, 6, 6, 6, 6, 6, 6, 6, 6, 6, 6, 6, 6, 6, 6, 6].append [7, 7, 7, 7, 7, 7, 7, 7, 7, 7, 7, 7, 7, 7, 7, 7, 7, 7, 7, 7, 7, 7, 7, 7, 7, 7, 7, 7, 7, 7, 7, 7, 7, 7, 7, 7, 7, 7, 7, 7, 7, 7, 7, 7, 7, 7, 7, 7, 7, 7, 7, 7, 7, 7, 7, 7, 7, 7, 7, 7, 7, 7, 7, 7]).append ([8, 8, 8, 8, 8, 8, 8, 8, 8, 8, 8, 8, 8, 8, 8, 8, 8, 8, 8, 8, 8, 8, 8, 8, 8, 8, 8, 8, 8, 8, 8, 8, 8, 8, 8, 8, 8, 8, 8, 8, 8, 8, 8, 8, 8, 8, 8, 8, 8, 8, 8, 8, 8, 8, 8, 8, 8, 8, 8, 8, 8, 8, 8, 8].append [8, 8, 8, 8, 8, 8, 8, 8, 8, 8, 8, 8, 8, 8, 8, 8, 8, 8, 8, 8, 8, 8, 8, 8, 8, 8, 8, 8, 8, 8, 8, 8, 8, 8, 8, 8, 8, 8, 8, 8, 8, 8, 8, 8, 8, 8, 8, 8, 8, 8, 8, 8, 8, 8, 8, 8, 8, 8, 8, 8, 8, 8, 8, 8])).toArray⟩
theorem lenT_size : lenT.size = 256 := by decide +kernel
theorem lenT_all : ∀ k : Fin 256, 0 ≤ sb lenT k.val ∧ sb lenT k.val ≤ 8 ∧ (k.val : Int) < 2 ^ (sb lenT k.val).toNat ∧ (0 < k.val → (2 : Int) ^ (sb lenT k.val).toNat ≤ 2 * (k.val : Int)) ∧ (k.val = 0 → sb lenT k.val = 0) := by decide +kernel
theorem lenT_at {y : Int} (h : 0 ≤ y ∧ y ≤ 255) : ∃ b : Nat, sb lenT y.toNat = (b : Int) ∧ b ≤ 8 ∧ y < 2 ^ b ∧ (0 < y → (2 : Int) ^ b ≤ 2 * y) ∧ (y = 0 → b = 0) := by
  obtain ⟨h1, h2, h3, h4, h5⟩ := lenT_all ⟨y.toNat, by omega⟩
  dsimp only at h1 h2 h3 h4 h5
  refine ⟨(sb lenT y.toNat).toNat, by omega, by omega, by omega, fun h0 => by have := h4 (by omega); omega, fun h0 => by have := h5 (by omega); omega⟩
/-- a number behind n bits -/
def Sh (x y : Int) (n : Nat) : Prop := 0 ≤ y ∧ y = x / 2 ^ n ∧ (0 < n → 1 ≤ y)
theorem Sh.step {x y : Int} {n : Nat} (h : Sh x y n) (k : Nat) (hk : (2 : Int) ^ k ≤ y) : Sh x (y / 2 ^ k) (n + k) := by
  obtain ⟨h1, h2, _⟩ := h
  have hp : (0 : Int) < 2 ^ k := Int.pow_pos (by omega)
  have hn : (0 : Int) < 2 ^ n := Int.pow_pos (by omega)
  refine ⟨Int.ediv_nonneg h1 (by omega), by rw [h2, Int.ediv_ediv_of_nonneg (by omega), Int.pow_add], fun _ => ?_⟩
  exact (Int.le_ediv_iff_mul_le hp).2 (by omega)
theorem Sh.fin {x y : Int} {n b : Nat} (h : Sh x y n) (h1 : y < 2 ^ b) (h2 : 0 < y → (2 : Int) ^ b ≤ 2 * y) (h3 : y = 0 → b = 0) (hx : 0 ≤ x) : x < 2 ^ (n + b) ∧ (0 < x → (2 : Int) ^ (n + b) ≤ 2 * x) ∧ (x = 0 → n + b = 0) := by
  obtain ⟨g1, g2, g3⟩ := h
  have hn : (0 : Int) < 2 ^ n := Int.pow_pos (by omega)
  have e := Int.mul_ediv_add_emod x (2 ^ n)
  have m1 := Int.emod_nonneg x (show (2 : Int) ^ n ≠ 0 by omega)
  have m2 := Int.emod_lt_of_pos x hn
  rw [← g2] at e
  refine ⟨?_, ?_, fun hx0 => ?_⟩
  · rw [Int.pow_add]
    have : (2 : Int) ^ n * (y + 1) ≤ 2 ^ n * 2 ^ b := Int.mul_le_mul_of_nonneg_left (by omega) (by omega)
    rw [Int.mul_add] at this
    omega
  · intro h0
    rw [Int.pow_add]
    by_cases hy : 0 < y
    · have h4 := h2 hy
      have : (2 : Int) ^ n * 2 ^ b ≤ 2 ^ n * (2 * y) := Int.mul_le_mul_of_nonneg_left h4 (by omega)
      rw [← Int.mul_assoc, Int.mul_comm (2 ^ n) 2, Int.mul_assoc] at this
      omega
    · have hy0 : y = 0 := by omega
      have hb := h3 hy0
      subst hb
      have hn0 : n = 0 := by
        rcases Nat.eq_zero_or_pos n with h | h
        · exact h
        · have := g3 h; omega
      subst hn0
      simp at e ⊢
      omega
  · subst hx0
    have hy0 : y = 0 := by rw [g2]; exact Int.zero_ediv _
    have hb := h3 hy0
    have hn0 : n = 0 := by
      rcases Nat.eq_zero_or_pos n with h | h
      · exact h
      · have := g3 h; omega
    omega
set_option maxHeartbeats 4000000 in
theorem qLen64 (x : Int) (hx : in64 x) : Fn Try.prog 82 #[.int .u64 x] [] [] (fun v L' R' => ∃ L : Nat, v = .int .i64 L ∧ L' = [] ∧ R' = [] ∧ L ≤ 64 ∧ x < 2 ^ L ∧ (0 < x → (2 : Int) ^ L ≤ 2 * x) ∧ (x = 0 → L = 0)) := by
  obtain ⟨x0, x1⟩ : 0 ≤ x ∧ x ≤ 18446744073709551615 := hx
  have hf : ∀ (z : Int) (k : Nat), 0 ≤ z → z.fdiv (2 ^ k) = z / 2 ^ k := fun z k hz => Int.fdiv_eq_ediv_of_nonneg _ (Int.le_of_lt (Int.pow_pos (by omega)))
  refine fn_intro Try.func82 rfl Try.ntmps82 rfl (fun E => ?_)
  (repeat (first | ((first | (apply wo_v; rfl) ); (· first | (apply pv_ev; rfl) )) | apply wo_nil | apply wc_seq | apply wc_region | (apply wc_true; rfl) | (apply wc_false; rfl) | (apply a_dec_t; rfl; (· first | assumption | omega)) | (apply a_dec_f; rfl; (· first | assumption | omega)) | (apply a_dec_t; rfl; (· first | (simp; done) | (simp; omega))) | (apply a_dec_f; rfl; (· first | (simp; done) | (simp; omega))) ))
  refine wc_join0 (fun st => ∃ (y : Int) (n : Nat), st = ⟨[(0, .int .u64 y), (2, .int .i64 n)], [], []⟩ ∧ Sh x y n ∧ y ≤ 4294967295 ∧ n ≤ 32) ?_ ?_
  · by_cases h : 4294967296 ≤ x
    · have h1 := (show Sh x x 0 from ⟨x0, by simp, fun h => absurd h (by omega)⟩).step 32 (by omega)
      have e := hf x 32 x0
      (repeat (first | ((first | (apply wo_v; rfl) ); (· first | (apply pv_ev; rfl) | (apply g_bin; first | (apply a_shr; rfl; rfl; rfl; omega; rfl) ) )) | apply wo_nil | apply wc_seq | apply wc_region | (apply wc_true; rfl) | (apply wc_false; rfl) | (apply a_dec_t; rfl; (· first | assumption | omega)) ))
      exact cut_end ⟨x / 2 ^ 32, 32, rfl, by simpa using h1, by omega, by omega⟩ (wk_mk (by (repeat (first | apply wkf_nil | (apply wkf_cons; rfl))); done) (by (repeat (first | apply sub_nil )); done) (by first | exact fun _ h => h | (intro r hr; cases hr; done) | (simp; done) | exact fun _ h => List.mem_append_left _ h | (intro r hr; simp [hr]; done)))
    · (repeat (first | apply wc_skip | (apply wc_true; rfl) | (apply wc_false; rfl) | (apply a_dec_t; rfl; (· first | assumption | omega)) | (apply a_dec_f; rfl; (· first | assumption | omega)) ))
      exact cut_end ⟨x, 0, rfl, ⟨x0, by simp, fun h => absurd h (by omega)⟩, by omega, by omega⟩ (wk_mk (by (repeat (first | apply wkf_nil | (apply wkf_cons; rfl))); done) (by (repeat (first | apply sub_nil )); done) (by first | exact fun _ h => h | (intro r hr; cases hr; done) | (simp; done) | exact fun _ h => List.mem_append_left _ h | (intro r hr; simp [hr]; done)))
  rintro st ⟨y, n, rfl, hS, hy, hn⟩
  have y0 := hS.1
  (repeat (first | ((first | (apply wo_v; rfl) ); (· first | (apply pv_ev; rfl) )) | apply wo_nil | apply wc_seq | apply wc_region | (apply wc_true; rfl) | (apply wc_false; rfl) | (apply a_dec_t; rfl; (· first | assumption | omega)) | (apply a_dec_f; rfl; (· first | assumption | omega)) | (apply a_dec_t; rfl; (· first | (simp; done) | (simp; omega))) | (apply a_dec_f; rfl; (· first | (simp; done) | (simp; omega))) ))
  refine wc_join0 (fun st => ∃ (y : Int) (n : Nat), st = ⟨[(0, .int .u64 y), (2, .int .i64 n)], [], []⟩ ∧ Sh x y n ∧ y ≤ 65535 ∧ n ≤ 48) ?_ ?_
  · by_cases h : 65536 ≤ y
    · have h1 := hS.step 16 (by omega)
      have e := hf y 16 y0
      (repeat (first | ((first | (apply wo_v; rfl) ); (· first | (apply pv_ev; rfl) | (apply g_bin; first | (apply a_add; rfl; rfl; infer_instance; omega) | (apply a_shr; rfl; rfl; rfl; omega; rfl) ) )) | apply wo_nil | apply wc_seq | apply wc_region | (apply wc_true; rfl) | (apply wc_false; rfl) | (apply a_dec_t; rfl; (· first | assumption | omega)) ))
      exact cut_end ⟨y / 2 ^ 16, n + 16, rfl, h1, by omega, by omega⟩ (wk_mk (by (repeat (first | apply wkf_nil | (apply wkf_cons; rfl))); done) (by (repeat (first | apply sub_nil )); done) (by first | exact fun _ h => h | (intro r hr; cases hr; done) | (simp; done) | exact fun _ h => List.mem_append_left _ h | (intro r hr; simp [hr]; done)))
    · (repeat (first | apply wc_skip | (apply wc_true; rfl) | (apply wc_false; rfl) | (apply a_dec_t; rfl; (· first | assumption | omega)) | (apply a_dec_f; rfl; (· first | assumption | omega)) ))
      exact cut_end ⟨y, n, rfl, hS, by omega, by omega⟩ (wk_mk (by (repeat (first | apply wkf_nil | (apply wkf_cons; rfl))); done) (by (repeat (first | apply sub_nil )); done) (by first | exact fun _ h => h | (intro r hr; cases hr; done) | (simp; done) | exact fun _ h => List.mem_append_left _ h | (intro r hr; simp [hr]; done)))
  clear hS y0 hy hn y n
  rintro st ⟨y, n, rfl, hS, hy, hn⟩
  have y0 := hS.1
  (repeat (first | ((first | (apply wo_v; rfl) ); (· first | (apply pv_ev; rfl) )) | apply wo_nil | apply wc_seq | apply wc_region | (apply wc_true; rfl) | (apply wc_false; rfl) | (apply a_dec_t; rfl; (· first | assumption | omega)) | (apply a_dec_f; rfl; (· first | assumption | omega)) | (apply a_dec_t; rfl; (· first | (simp; done) | (simp; omega))) | (apply a_dec_f; rfl; (· first | (simp; done) | (simp; omega))) ))
  refine wc_join0 (fun st => ∃ (y : Int) (n : Nat), st = ⟨[(0, .int .u64 y), (2, .int .i64 n)], [], []⟩ ∧ Sh x y n ∧ y ≤ 255 ∧ n ≤ 56) ?_ ?_
  · by_cases h : 256 ≤ y
    · have h1 := hS.step 8 (by omega)
      have e := hf y 8 y0
      (repeat (first | ((first | (apply wo_v; rfl) ); (· first | (apply pv_ev; rfl) | (apply g_bin; first | (apply a_add; rfl; rfl; infer_instance; omega) | (apply a_shr; rfl; rfl; rfl; omega; rfl) ) )) | apply wo_nil | apply wc_seq | apply wc_region | (apply wc_true; rfl) | (apply wc_false; rfl) | (apply a_dec_t; rfl; (· first | assumption | omega)) ))
      exact cut_end ⟨y / 2 ^ 8, n + 8, rfl, h1, by omega, by omega⟩ (wk_mk (by (repeat (first | apply wkf_nil | (apply wkf_cons; rfl))); done) (by (repeat (first | apply sub_nil )); done) (by first | exact fun _ h => h | (intro r hr; cases hr; done) | (simp; done) | exact fun _ h => List.mem_append_left _ h | (intro r hr; simp [hr]; done)))
    · (repeat (first | apply wc_skip | (apply wc_true; rfl) | (apply wc_false; rfl) | (apply a_dec_t; rfl; (· first | assumption | omega)) | (apply a_dec_f; rfl; (· first | assumption | omega)) ))
      exact cut_end ⟨y, n, rfl, hS, by omega, by omega⟩ (wk_mk (by (repeat (first | apply wkf_nil | (apply wkf_cons; rfl))); done) (by (repeat (first | apply sub_nil )); done) (by first | exact fun _ h => h | (intro r hr; cases hr; done) | (simp; done) | exact fun _ h => List.mem_append_left _ h | (intro r hr; simp [hr]; done)))
  clear hS y0 hy hn y n
  rintro st ⟨y, n, rfl, hS, hy, hn⟩
  have y0 := hS.1
  obtain ⟨b, hb, b1, b2, b3, b4⟩ := lenT_at ⟨y0, hy⟩
  have hsz := lenT_size
  obtain ⟨f1, f2, f3⟩ := hS.fin b2 b3 b4 x0
  (repeat (first | ((first | (apply wo_v; rfl) ); (· first | (apply pv_ev; rfl) | (apply g_conv; first | (apply a_conv; rfl; infer_instance; infer_instance; infer_instance; omega) ) | (apply pv_index_sn; rfl; rfl; omega) | (apply pv_index_s; rfl; rfl; omega) )) | apply wc_seq | apply wc_region ))
  apply wo_v
  · rfl
  · exact pv_index_s (s := lenT) rfl rfl ⟨y0, by omega⟩
  rw [hb]
  (repeat (first | ((first | (apply wo_v; rfl) ); (· first | (apply pv_ev; rfl) | (apply g_bin; first | (apply a_add; rfl; rfl; infer_instance; omega) ) | (apply g_conv; first | (apply a_conv; rfl; infer_instance; infer_instance; infer_instance; omega) ) )) | apply wo_nil | apply wc_ret ))
  exact ret1 rfl rfl ⟨n + b, by congr 1, rfl, rfl, by omega, f1, f2, f3⟩ ((by (repeat (first | apply sub_nil )); done) : List.Perm _ ([] ++ _)) (by first | exact fun _ h => h | (intro r hr; cases hr; done) | (simp; done) | exact fun _ h => List.mem_append_left _ h | (intro r hr; simp [hr]; done))

theorem two_le {a b : Nat} (h : a ≤ b) : (2 : Int) ^ a ≤ 2 ^ b := by
  have := Nat.pow_le_pow_right (show 0 < 2 by omega) h
  rw [show (2 : Int) = ((2 : Nat) : Int) from rfl, ← Int.natCast_pow, ← Int.natCast_pow]
  exact Int.ofNat_le.2 this
instance : HasBody Try.prog 82 := ⟨by kernel_rfl⟩
def exF : Nat → Int → Nat
  | 0, _ => 0
  | k + 1, x => if x < 262144 then 0 else exF k (x / 2) + 1
/-- how far a rate is shifted -/
def exM (x : Int) : Nat := exF 64 x
def ExpOf (x : Int) (e : Nat) : Prop := x < 2 ^ (e + 18) ∧ (e = 0 ∨ (2 : Int) ^ (e + 17) ≤ x)
theorem exF_of (k : Nat) : ∀ (x : Int), 0 ≤ x → x < 2 ^ (k + 18) → ExpOf x (exF k x) := by
  induction k with
  | zero =>
    intro x h0 h
    have e : exF 0 x = 0 := rfl
    rw [e]
    exact ⟨h, .inl rfl⟩
  | succ k ih =>
    intro x h0 h
    have e0 : exF (k + 1) x = if x < 262144 then 0 else exF k (x / 2) + 1 := rfl
    have e18 : (2 : Int) ^ 18 = 262144 := by decide
    rw [e0]
    by_cases h1 : x < 262144
    · rw [if_pos h1]
      exact ⟨by rw [Nat.zero_add, e18]; exact h1, .inl rfl⟩
    · rw [if_neg h1]
      have e1 : (2 : Int) ^ (k + 1 + 18) = 2 * 2 ^ (k + 18) := by rw [show k + 1 + 18 = (k + 18) + 1 by omega, Int.pow_succ, Int.mul_comm]
      obtain ⟨g1, g2⟩ := ih (x / 2) (by omega) (by omega)
      generalize exF k (x / 2) = f at *
      have e2 : (2 : Int) ^ (f + 1 + 18) = 2 * 2 ^ (f + 18) := by rw [show f + 1 + 18 = (f + 18) + 1 by omega, Int.pow_succ, Int.mul_comm]
      have e3 : (2 : Int) ^ (f + 1 + 17) = 2 * 2 ^ (f + 17) := by rw [show f + 1 + 17 = (f + 17) + 1 by omega, Int.pow_succ, Int.mul_comm]
      refine ⟨by omega, .inr ?_⟩
      rcases g2 with g2 | g2
      · subst g2
        rw [show 0 + 1 + 17 = 18 from rfl, e18]; omega
      · omega
theorem exM_of {x : Int} (h : in64 x) : ExpOf x (exM x) := exF_of 64 x h.1 (Int.lt_of_le_of_lt h.2 (by decide +kernel))
theorem ExpOf.uniq {x : Int} {e f : Nat} (h1 : ExpOf x e) (h2 : ExpOf x f) : e = f := by
  have key : ∀ {e f : Nat}, ExpOf x e → ExpOf x f → e ≤ f := fun {e f} h1 h2 => by
    rcases h1.2 with h | h
    · omega
    · rcases Nat.lt_or_ge f e with hlt | hge
      · have : (2 : Int) ^ (f + 18) ≤ 2 ^ (e + 17) := two_le (by omega)
        have := h2.1
        omega
      · exact hge
  exact Nat.le_antisymm (key h1 h2) (key h2 h1)
theorem qExp (x : Int) (hx : in64 x) : Fn Try.prog 69 #[.int .u64 x] [] [] (fun v L' R' => v = .int .i64 (exM x) ∧ L' = [] ∧ R' = []) := by
  refine fn_intro Try.func69 rfl Try.ntmps69 rfl (fun E => ?_)
  (repeat (first | ((first | (apply wo_v; rfl) ); (· first | (apply pv_ev; rfl) )) | apply wo_nil | apply wc_seq | apply wc_region ))
  (refine wo_call (qLen64 x hx) rfl (by (repeat (first | apply sub_nil )); done) (by first | exact fun _ h => h | (intro r hr; cases hr; done) | (simp; done) | exact fun _ h => List.mem_append_left _ h | (intro r hr; simp [hr]; done)) rfl ?_; rintro v L' R' ⟨L, rfl, rfl, rfl, h1, h2, h3, h4⟩ H' hH RR hR; simp only [List.cons_append, List.nil_append] at hH hR; subst hH; have hR := hR.symm; subst hR)
  (repeat (first | ((first | (apply wo_v; rfl) ); (· first | (apply pv_ev; rfl) | (apply g_bin; first | (apply a_sub; rfl; rfl; infer_instance; omega) ) | (apply g_bi; first | (apply pv_max; rfl; rfl)) )) | apply wo_nil | apply wc_ret ))
  have he : ExpOf x (L - 18) := by
    by_cases hL : L ≤ 18
    · refine ⟨?_, .inl (by omega)⟩
      have : (2 : Int) ^ L ≤ 2 ^ (L - 18 + 18) := two_le (by omega)
      omega
    · refine ⟨by rw [show L - 18 + 18 = L by omega]; exact h2, .inr ?_⟩
      have hp : (0 : Int) < 2 ^ (L - 1) := Int.pow_pos (by omega)
      have e1 : (2 : Int) ^ L = 2 * 2 ^ (L - 1) := by rw [show L = (L - 1) + 1 by omega, Int.pow_succ, Int.mul_comm]; simp
      rw [show L - 18 + 17 = L - 1 by omega]
      by_cases h0 : 0 < x
      · have := h3 h0; omega
      · exfalso
        have hx0 := h4 (by have := hx.1; omega)
        omega
  have e2 := he.uniq (exM_of hx)
  exact ret1 rfl rfl ⟨by rw [← e2]; congr 1; omega, rfl, rfl⟩ ((by (repeat (first | apply sub_nil )); done) : List.Perm _ ([] ++ _)) (by first | exact fun _ h => h | (intro r hr; cases hr; done) | (simp; done) | exact fun _ h => List.mem_append_left _ h | (intro r hr; simp [hr]; done))

end Go.Proofs.Yteaccbbmphcmnaa

/-
  Package rtcp: what packets write: Remb.
-/
namespace Go.Proofs.Yteaccbbmphcmnaa
set_option linter.unusedSimpArgs false
set_option linter.unusedVariables false
open Go.RowKit
attribute [local irreducible] Pv WO WC Fn
set_option maxRecDepth 100000
attribute [local irreducible] ByteArray.extract

theorem or_sum {e q : Int} (he : 0 ≤ e ∧ e ≤ 63) (hq : 0 ≤ q ∧ q < 262144) : bits .or .u64 (e * 262144) q = e * 262144 + q := by
  obtain ⟨u, rfl⟩ := Int.eq_ofNat_of_zero_le he.1
  obtain ⟨z, rfl⟩ := Int.eq_ofNat_of_zero_le hq.1
  have e0 : (u : Int) * 262144 = ((u * 262144 : Nat) : Int) := by omega
  rw [e0]
  show IntKind.u64.wrap ((BitVec.ofInt 64 ((u * 262144 : Nat) : Int) ||| BitVec.ofInt 64 (z : Int)).toNat : Int) = _
  have hz : ∀ c : Nat, c < 2 ^ 64 → (BitVec.ofInt 64 (c : Int)).toNat = c := fun c hc => by
    rw [BitVec.ofInt_natCast, BitVec.toNat_ofNat]; exact Nat.mod_eq_of_lt hc
  rw [BitVec.toNat_or, hz _ (by omega), hz z (by omega), IntKind.wrap_u64]
  have : 2 ^ 18 * u + z = 2 ^ 18 * u ||| z := Nat.two_pow_add_eq_or_of_lt (by omega) u
  rw [show u * 262144 = 2 ^ 18 * u by omega, ← this]
  omega
def remV (rt : Int) : Int := exM rt * 262144 + rt / 2 ^ exM rt
def remT (fm rt : Int) (ss : List Int) : ByteArray := numsS 4 [fm, 0] ++ rembS ++ numsS 1 [(ss.length : Int)] ++ numsS 3 [remV rt] ++ numsS 4 ss
theorem exM_le {rt : Int} (h : in64 rt) : exM rt ≤ 46 := by
  have h1 := exM_of h
  rcases h1.2 with h2 | h2
  · omega
  · rcases Nat.lt_or_ge 46 (exM rt) with h3 | h3
    · exfalso
      have : (2 : Int) ^ 64 ≤ 2 ^ (exM rt + 17) := two_le (by omega)
      have h4 := h.2
      have e : (2 : Int) ^ 64 = 18446744073709551616 := by decide +kernel
      omega
    · exact h3
theorem exM_q {rt : Int} (h : in64 rt) : 0 ≤ rt / 2 ^ exM rt ∧ rt / 2 ^ exM rt < 262144 := by
  have hp : (0 : Int) < 2 ^ exM rt := Int.pow_pos (by omega)
  refine ⟨Int.ediv_nonneg h.1 (by omega), ?_⟩
  have h1 := (exM_of h).1
  rw [Int.pow_add, Int.mul_comm] at h1
  exact Int.ediv_lt_of_lt_mul hp h1
theorem remV_b {rt : Int} (h : in64 rt) : 0 ≤ remV rt ∧ remV rt ≤ 16777215 := by
  have h1 := exM_le h
  have h2 := exM_q h
  unfold remV
  omega
abbrev rmB (b : Nat) (fm rt : Int) (v : Value) : It := .ob b (.cells #[.int .u32 fm, .int .u64 rt, v] 111 (0, 0))
def tblRm (g : Nat) (f0 n V : Int) (T1 T2 T3 T4 T5 : ByteArray) : Nat → List (List It) → Value → List (List It) → Prop := fun k Ls v Ms => match k with
  | 3 => newP 37 [[.int .u32 f0], [.int .u32 0]] v Ms
  | 4 => wrP0 g T1 v Ms
  | 5 => newP 9 [[.string rembS]] v Ms
  | 6 => wrP0 g T2 v Ms
  | 11 => newP 5 [[.int .u8 n]] v Ms
  | 12 => wrP0 g T3 v Ms
  | 21 => newP 52 [[.int .u64 V]] v Ms
  | 22 => wrP0 g T4 v Ms
  | _ => wrP1 g T5 v Ms
set_option maxHeartbeats 16000000 in
theorem pRemb (R : List Ro) (g : Nat) (f0 rt : Int) (ss : List Int) (A : Option Addr) (n c : Nat) (hS : SQ R 1 A n c (c32 ss)) (hl : ss.length ≤ 255) (hb : ∀ x ∈ ss, in32 x) (h1 : in32 f0) (h2 : in64 rt) :
    PtF 109 R g (.agg #[.int .u32 f0, .int .u64 rt, .slice A n c]) (remT f0 rt ss) := by
  have hn : n = ss.length := by rw [← hS.len, c32_len]
  subst hn
  have hx := exM_le h2
  have hq := exM_q h2
  have qe := qExp rt h2
  have hvb := remV_b h2
  have hrt : 0 ≤ rt ∧ rt ≤ 18446744073709551615 := h2
  have hln : 0 ≤ (ss.length : Int) ∧ (ss.length : Int) ≤ 255 := by omega
  unfold remT
  obtain ⟨V0, hV0⟩ : ∃ V0, remV rt = V0 := ⟨_, rfl⟩
  rw [hV0] at hvb ⊢
  unfold remV at hV0
  obtain ⟨e, he⟩ : ∃ e, exM rt = e := ⟨_, rfl⟩
  rw [he] at hx hq qe hV0
  have hor := or_sum (e := e) (q := rt / 2 ^ e) (by omega) hq
  rw [hV0] at hor
  have hfd : rt.fdiv (2 ^ (min (e : Int).toNat IntKind.u64.bits)) = rt / 2 ^ e := by
    rw [show min (e : Int).toNat IntKind.u64.bits = e by show min e 64 = e; omega]
    exact Int.fdiv_eq_ediv_of_nonneg _ (Int.le_of_lt (Int.pow_pos (by omega)))
  obtain ⟨T1, hT1⟩ : ∃ T1, numsS 4 [f0, 0] = T1 := ⟨_, rfl⟩
  rw [hT1]
  obtain ⟨T2, hT2⟩ : ∃ T2, T1 ++ rembS = T2 := ⟨_, rfl⟩
  rw [hT2]
  obtain ⟨T3, hT3⟩ : ∃ T3, T2 ++ numsS 1 [(ss.length : Int)] = T3 := ⟨_, rfl⟩
  rw [hT3]
  obtain ⟨T4, hT4⟩ : ∃ T4, T3 ++ numsS 3 [V0] = T4 := ⟨_, rfl⟩
  rw [hT4]
  obtain ⟨T5, hT5⟩ : ∃ T5, T4 ++ numsS 4 ss = T5 := ⟨_, rfl⟩
  rw [hT5]
  have z1 : T1.size = 8 := by rw [← hT1, numsS_size]; rfl
  have z2 : T2.size = 12 := by rw [← hT2, ByteArray.size_append, z1]; rfl
  have z3 : T3.size = 13 := by rw [← hT3, ByteArray.size_append, numsS_size, z2]; rfl
  have z4 : T4.size = 16 := by rw [← hT4, ByteArray.size_append, numsS_size, z3]; rfl
  have hW1 := fun c p ao hw bl => wU32 g c bl 2 p ao E0 [f0, 0] (all2 (P := in32) h1 in32_0) (by simp) hw (by decide)
  rw [E0_append, hT1] at hW1
  have hW2 := fun c p ao hw bl => wPut g c bl 1 p ao T1 [rembS] (all1B (by decide)) (by simp) hw (by omega)
  rw [show catS [rembS] = rembS from append_E0 rembS, hT2] at hW2
  have hW3 := fun c p ao hw bl => wU8L g c bl p ao T2 [(ss.length : Int)] (all1 (P := in8) hln) (by simp) (by simp) hw (by omega)
  rw [hT3] at hW3
  have hW4 := fun c p ao hw bl => wNum g c bl 1 p ao T3 3 3 [V0] rfl (all1 (P := fun x => 0 ≤ x ∧ x ≤ 18446744073709551615) (by omega)) (by simp) hw (by omega)
  rw [hT4] at hW4
  have hW5 := fun c2 p ao hw => wR32 g c2 p ao T4 ss A ss.length c R hS hb (by omega) hw (by omega)
  rw [hT5] at hW5
  refine fn_intro Try.func109 rfl Try.ntmps109 rfl (fun E => ?_)
  (repeat (first | ((first | (apply wo_v; rfl) ); (· first | (apply pv_ev; rfl) | (apply pv_fld; rfl) | (apply g_load; first | (apply pv_ld; rfl; (· (repeat (first | apply sel_here ))); rfl) ) )) | apply wo_nil | apply wc_seq | apply wc_region | (apply wo_box1; rfl; rfl; rfl; intro bx) | (apply wo_boxa; rfl; rfl; intro bx) ))
  obtain ⟨bp, hbp⟩ : ∃ g, g = bx := ⟨_, rfl⟩
  subst hbp
  (refine wo_call (qe) rfl (by (repeat (first | apply sub_nil )); done) (by first | exact fun _ h => h | (intro r hr; cases hr; done) | (simp; done) | exact fun _ h => List.mem_append_left _ h | (intro r hr; simp [hr]; done)) rfl ?_; rintro v L' R' ⟨rfl, rfl, rfl⟩ H' hH RR hR; simp only [List.cons_append, List.nil_append] at hH hR; subst hH; have hR := hR.symm; subst hR)
  (repeat (first | ((first | (apply wo_v; rfl) ); (· first | (apply pv_ev; rfl) )) | apply wo_nil ))
  have hV : bits .or .u64 ((e : Int) * 262144) (rt.fdiv (2 ^ (min (e : Int).toNat IntKind.u64.bits))) = V0 := by rw [hfd]; exact hor
  (refine wc_regM [0, 1, 2, 3, 4] (aslL [(3, [1]), (4, [0, 1]), (5, [2]), (6, [0, 2]), (11, [3]), (12, [0, 3]), (21, [4]), (22, [0, 4]), (25, [0])]) (tblRm g f0 ss.length V0 T1 T2 T3 T4 T5) ([rmB bp f0 rt (.slice A ss.length c)]) (fm [(0, wrH g none none 0 E0), (1, []), (2, []), (3, []), (4, [])]) mixed (by kernel_rfl) (by kernel_rfl) (by decide) (aslL_ok (by decide)) (by (repeat (first | (apply prm_cons; (· (repeat (first | apply sel_here )))) | apply List.Perm.nil )); done) ?_; (repeat (first | (apply HdM.val; rfl; rfl; (· first | apply gok_none ); (· first | (apply pv_ev; rfl) | (apply pv_fld; rfl) | (apply g_load; first | (apply pv_ld; rfl; (· (repeat (first | apply sel_here ))); rfl) ) )) )))
  (refine hm_eff (cs := [1]) rfl (by decide) rfl rfl (by first | exact gok_none | exact gok_run rfl rfl) (fun a ha => outc_mono (outc_bsl (by (repeat (first | apply Rws'.nil | (apply Rws'.one; rfl; rfl; rfl) )); done) rfl rfl rfl a ha) (fun v M h => by obtain ⟨b, h1, h2⟩ := h; exact ⟨[M], ⟨b, h1, congrArg (fun x => [x]) h2⟩, rfl, by simp⟩)) (⟨_, _, Exists.intro 0 (And.intro rfl rfl), rfl⟩) ?_; rintro v Ms ⟨bw1, rfl, rfl⟩ _; simp only [setls, setl, reduceIte, Nat.reduceEqDiff]; (repeat (first | (apply HdM.val; rfl; rfl; (· first | fail ); (· first | fail )) )))
  (refine hm_eff (cs := [0, 1]) rfl (by decide) rfl rfl (by first | exact gok_none | exact gok_run rfl rfl) (fun a ha => outc_mono (outc_call (F1 := _) (T := fun v M => ∃ (p ao : Option Addr) (c : Nat), v = .pointer (some ⟨g, 0, none⟩) ∧ M = wrH g p ao c T1 ∧ WOk g p ao c T1) (hW1 0 none none (w0 g) bw1) rfl (by (repeat (first | apply sub_nil )); done) (by first | exact fun _ h => h | (intro r hr; cases hr; done) | (simp; done) | exact fun _ h => List.mem_append_left _ h | (intro r hr; simp [hr]; done)) (by rintro v L' R' ⟨p', ao', c', rfl, rfl, _, hw'⟩; exact ⟨_, ⟨p', ao', c', rfl, rfl, hw'⟩, (by (repeat (first | (apply prm_cons; (· (repeat (first | apply sel_here )))) | apply List.Perm.nil )); done)⟩) a ha) (fun v M h => Exists.elim h fun p h => Exists.elim h fun ao h => Exists.elim h fun c h => ⟨[M, []], Exists.intro p (Exists.intro ao (Exists.intro c (And.intro h.1 (And.intro (congrArg (fun x => [x, []]) h.2.1) h.2.2)))), rfl, by simp⟩)) ((by obtain ⟨p, ao, c, h⟩ := WOk.ex g T1; exact ⟨_, _, Exists.intro p (Exists.intro ao (Exists.intro c (And.intro rfl (And.intro rfl h)))), rfl⟩)) ?_; rintro v Ms ⟨pc1, aoc1, cc1, rfl, rfl, hwc1⟩ _; simp only [setls, setl, reduceIte, Nat.reduceEqDiff]; (repeat (first | (apply HdM.val; rfl; rfl; (· first | fail ); (· first | fail )) )))
  (refine hm_eff (cs := [2]) rfl (by decide) rfl rfl (by first | exact gok_none | exact gok_run rfl rfl) (fun a ha => outc_mono (outc_bsl (by (repeat (first | apply Rws'.nil | (apply Rws'.one; rfl; rfl; rfl) )); done) rfl rfl rfl a ha) (fun v M h => by obtain ⟨b, h1, h2⟩ := h; exact ⟨[M], ⟨b, h1, congrArg (fun x => [x]) h2⟩, rfl, by simp⟩)) (⟨_, _, Exists.intro 0 (And.intro rfl rfl), rfl⟩) ?_; rintro v Ms ⟨bw2, rfl, rfl⟩ _; simp only [setls, setl, reduceIte, Nat.reduceEqDiff]; (repeat (first | (apply HdM.val; rfl; rfl; (· first | fail ); (· first | fail )) )))
  (refine hm_eff (cs := [0, 2]) rfl (by decide) rfl rfl (by first | exact gok_none | exact gok_run rfl rfl) (fun a ha => outc_mono (outc_call (F1 := _) (T := fun v M => ∃ (p ao : Option Addr) (c : Nat), v = .pointer (some ⟨g, 0, none⟩) ∧ M = wrH g p ao c T2 ∧ WOk g p ao c T2) (hW2 cc1 pc1 aoc1 hwc1 bw2) rfl (by (repeat (first | apply sub_nil )); done) (by first | exact fun _ h => h | (intro r hr; cases hr; done) | (simp; done) | exact fun _ h => List.mem_append_left _ h | (intro r hr; simp [hr]; done)) (by rintro v L' R' ⟨p', ao', c', rfl, rfl, _, hw'⟩; exact ⟨_, ⟨p', ao', c', rfl, rfl, hw'⟩, (by (repeat (first | (apply prm_cons; (· (repeat (first | apply sel_here )))) | apply List.Perm.nil )); done)⟩) a ha) (fun v M h => Exists.elim h fun p h => Exists.elim h fun ao h => Exists.elim h fun c h => ⟨[M, []], Exists.intro p (Exists.intro ao (Exists.intro c (And.intro h.1 (And.intro (congrArg (fun x => [x, []]) h.2.1) h.2.2)))), rfl, by simp⟩)) ((by obtain ⟨p, ao, c, h⟩ := WOk.ex g T2; exact ⟨_, _, Exists.intro p (Exists.intro ao (Exists.intro c (And.intro rfl (And.intro rfl h)))), rfl⟩)) ?_; rintro v Ms ⟨pc2, aoc2, cc2, rfl, rfl, hwc2⟩ _; simp only [setls, setl, reduceIte, Nat.reduceEqDiff]; (repeat (first | (apply HdM.val; rfl; rfl; (· first | apply gok_none ); (· first | (apply pv_ev; rfl) | (apply pv_fld; rfl) | (apply g_load; first | (apply pv_ld; rfl; (· (repeat (first | apply sel_here ))); rfl) ) | (apply g_bi; first | (apply pv_len_sl; rfl) ) | (apply g_conv; first | (apply a_conv; rfl; infer_instance; infer_instance; infer_instance; omega) ) )) )))
  (refine hm_eff (cs := [3]) rfl (by decide) rfl rfl (by first | exact gok_none | exact gok_run rfl rfl) (fun a ha => outc_mono (outc_bsl (by (repeat (first | apply Rws'.nil | (apply Rws'.one; rfl; rfl; rfl) )); done) rfl rfl rfl a ha) (fun v M h => by obtain ⟨b, h1, h2⟩ := h; exact ⟨[M], ⟨b, h1, congrArg (fun x => [x]) h2⟩, rfl, by simp⟩)) (⟨_, _, Exists.intro 0 (And.intro rfl rfl), rfl⟩) ?_; rintro v Ms ⟨bw3, rfl, rfl⟩ _; simp only [setls, setl, reduceIte, Nat.reduceEqDiff]; (repeat (first | (apply HdM.val; rfl; rfl; (· first | fail ); (· first | fail )) )))
  (refine hm_eff (cs := [0, 3]) rfl (by decide) rfl rfl (by first | exact gok_none | exact gok_run rfl rfl) (fun a ha => outc_mono (outc_call (F1 := _) (T := fun v M => ∃ (p ao : Option Addr) (c : Nat), v = .pointer (some ⟨g, 0, none⟩) ∧ M = wrH g p ao c T3 ∧ WOk g p ao c T3) (hW3 cc2 pc2 aoc2 hwc2 bw3) rfl (by (repeat (first | apply sub_nil )); done) (by first | exact fun _ h => h | (intro r hr; cases hr; done) | (simp; done) | exact fun _ h => List.mem_append_left _ h | (intro r hr; simp [hr]; done)) (by rintro v L' R' ⟨p', ao', c', rfl, rfl, _, hw'⟩; exact ⟨_, ⟨p', ao', c', rfl, rfl, hw'⟩, (by (repeat (first | (apply prm_cons; (· (repeat (first | apply sel_here )))) | apply List.Perm.nil )); done)⟩) a ha) (fun v M h => Exists.elim h fun p h => Exists.elim h fun ao h => Exists.elim h fun c h => ⟨[M, []], Exists.intro p (Exists.intro ao (Exists.intro c (And.intro h.1 (And.intro (congrArg (fun x => [x, []]) h.2.1) h.2.2)))), rfl, by simp⟩)) ((by obtain ⟨p, ao, c, h⟩ := WOk.ex g T3; exact ⟨_, _, Exists.intro p (Exists.intro ao (Exists.intro c (And.intro rfl (And.intro rfl h)))), rfl⟩)) ?_; rintro v Ms ⟨pc3, aoc3, cc3, rfl, rfl, hwc3⟩ _; simp only [setls, setl, reduceIte, Nat.reduceEqDiff]; (repeat (first | (apply HdM.val; rfl; rfl; (· first | apply gok_none ); (· first | (apply pv_ev; rfl) | (apply pv_fld; rfl) | (apply g_load; first | (apply pv_ld; rfl; (· (repeat (first | apply sel_here ))); rfl) ) | (apply g_bin; first | (apply (a_or 4); rfl; rfl; infer_instance; rfl; omega) | (apply (a_or 5); rfl; rfl; infer_instance; rfl; omega) | (apply (a_or 6); rfl; rfl; infer_instance; rfl; omega) | (apply (a_or 7); rfl; rfl; infer_instance; rfl; omega) | (apply (a_or 8); rfl; rfl; infer_instance; rfl; omega) | (apply (a_or 16); rfl; rfl; infer_instance; rfl; omega) | (apply (a_or 24); rfl; rfl; infer_instance; rfl; omega) | (apply (a_or 32); rfl; rfl; infer_instance; rfl; omega) | (apply pv_or; rfl; rfl) | (apply a_shr; rfl; rfl; rfl; omega; rfl) | (apply a_shl; rfl; rfl; rfl; omega; rfl; infer_instance; omega) | (apply pv_shr; rfl; rfl; omega) ) | (apply g_conv; first | (apply a_conv; rfl; infer_instance; infer_instance; infer_instance; omega) ) )) )))
  (refine hm_eff (cs := [4]) rfl (by decide) rfl rfl (by first | exact gok_none | exact gok_run rfl rfl) (fun a ha => outc_mono (outc_bsl (by (repeat (first | apply Rws'.nil | (apply Rws'.one; rfl; rfl; rfl) )); done) rfl rfl rfl a ha) (fun v M h => by obtain ⟨b, h1, h2⟩ := h; rw [hV] at h2; exact ⟨[M], ⟨b, h1, congrArg (fun x => [x]) h2⟩, rfl, by simp⟩)) (⟨_, _, Exists.intro 0 (And.intro rfl rfl), rfl⟩) ?_; rintro v Ms ⟨bw4, rfl, rfl⟩ _; simp only [setls, setl, reduceIte, Nat.reduceEqDiff]; (repeat (first | (apply HdM.val; rfl; rfl; (· first | fail ); (· first | fail )) )))
  (refine hm_eff (cs := [0, 4]) rfl (by decide) rfl rfl (by first | exact gok_none | exact gok_run rfl rfl) (fun a ha => outc_mono (outc_call (F1 := _) (T := fun v M => ∃ (p ao : Option Addr) (c : Nat), v = .pointer (some ⟨g, 0, none⟩) ∧ M = wrH g p ao c T4 ∧ WOk g p ao c T4) (hW4 cc3 pc3 aoc3 hwc3 bw4) rfl (by (repeat (first | apply sub_nil )); done) (by first | exact fun _ h => h | (intro r hr; cases hr; done) | (simp; done) | exact fun _ h => List.mem_append_left _ h | (intro r hr; simp [hr]; done)) (by rintro v L' R' ⟨p', ao', c', rfl, rfl, _, hw'⟩; exact ⟨_, ⟨p', ao', c', rfl, rfl, hw'⟩, (by (repeat (first | (apply prm_cons; (· (repeat (first | apply sel_here )))) | apply List.Perm.nil )); done)⟩) a ha) (fun v M h => Exists.elim h fun p h => Exists.elim h fun ao h => Exists.elim h fun c h => ⟨[M, []], Exists.intro p (Exists.intro ao (Exists.intro c (And.intro h.1 (And.intro (congrArg (fun x => [x, []]) h.2.1) h.2.2)))), rfl, by simp⟩)) ((by obtain ⟨p, ao, c, h⟩ := WOk.ex g T4; exact ⟨_, _, Exists.intro p (Exists.intro ao (Exists.intro c (And.intro rfl (And.intro rfl h)))), rfl⟩)) ?_; rintro v Ms ⟨pc4, aoc4, cc4, rfl, rfl, hwc4⟩ _; simp only [setls, setl, reduceIte, Nat.reduceEqDiff]; (repeat (first | (apply HdM.val; rfl; rfl; (· first | apply gok_none ); (· first | (apply pv_ev; rfl) | (apply pv_fld; rfl) | (apply g_load; first | (apply pv_ld; rfl; (· (repeat (first | apply sel_here ))); rfl) ) )) )))
  (refine hm_eff (cs := [0]) rfl (by decide) rfl rfl (by first | exact gok_none | exact gok_run rfl rfl) (fun a ha => outc_mono (outc_call (F1 := _) (T := fun v M => ∃ (p ao : Option Addr) (c : Nat), v = .pointer (some ⟨g, 0, none⟩) ∧ M = wrH g p ao c T5 ∧ WOk g p ao c T5) (hW5 cc4 pc4 aoc4 hwc4) rfl (by (repeat (first | apply sub_nil )); done) (by first | exact fun _ h => h | (intro r hr; cases hr; done) | (simp; done) | exact fun _ h => List.mem_append_left _ h | (intro r hr; simp [hr]; done)) (by rintro v L' R' ⟨p', ao', c', rfl, rfl, _, hw'⟩; exact ⟨_, ⟨p', ao', c', rfl, rfl, hw'⟩, (by (repeat (first | (apply prm_cons; (· (repeat (first | apply sel_here )))) | apply List.Perm.nil )); done)⟩) a ha) (fun v M h => by obtain ⟨p, ao, c, h1, h2, h3⟩ := h; exact ⟨[M], ⟨p, ao, c, h1, congrArg (fun x => [x]) h2, h3⟩, rfl, by simp⟩)) ((by obtain ⟨p, ao, c, h⟩ := WOk.ex g T5; exact ⟨_, _, Exists.intro p (Exists.intro ao (Exists.intro c (And.intro rfl (And.intro rfl h)))), rfl⟩)) ?_; rintro v Ms ⟨pc5, aoc5, cc5, rfl, rfl, hwc5⟩ _; simp only [setls, setl, reduceIte, Nat.reduceEqDiff]; (repeat (first | fail )))
  (refine HdM.nil ?_; intro H hH; simp only [Hp, fm, look, setl, List.flatMap_cons, List.flatMap_nil, reduceIte, Nat.reduceEqDiff, Option.getD_some, List.append_nil, List.cons_append, List.nil_append] at hH; subst hH)
  (repeat (first | fail ))
  exact ret0 rfl ⟨pc5, aoc5, cc5, rfl, rfl, rfl, hwc5⟩ (by (repeat (first | apply sub_nil | (apply sub_cons; (· (repeat (first | apply sel_here | apply sel_there)))))); done) (by first | exact fun _ h => h | (intro r hr; cases hr; done) | (simp; done) | exact fun _ h => List.mem_append_left _ h | (intro r hr; simp [hr]; done))
end Go.Proofs.Yteaccbbmphcmnaa

/-
  Package rtcp: packets, written through the interface.
-/
namespace Go.Proofs.Yteaccbbmphcmnaa
set_option linter.unusedSimpArgs false
set_option linter.unusedVariables false
open Go.RowKit
attribute [local irreducible] Pv WO WC Fn
set_option maxRecDepth 100000
attribute [local irreducible] ByteArray.extract

def hdK : Pkt → Int × Int
  | .sender _ _ _ _ _ bl => (200, bl.length)
  | .receiver _ bl => (201, bl.length)
  | .sdes ch => (202, ch.length)
  | .bye ss _ => (203, ss.length)
  | .nack .. => (205, 1)
  | .pli .. => (206, 1)
  | .fir .. => (206, 4)
  | .remb .. => (206, 15)
  | .other kd ct _ => (kd, ct)
def txK : Pkt → ByteArray
  | .sender ss ntp t pk oc bl => numsS 4 [ss] ++ numsS 8 [ntp] ++ numsS 4 [t, pk, oc] ++ bksT bl
  | .receiver ss bl => numsS 4 [ss] ++ bksT bl
  | .sdes ch => chsT ch
  | .bye ss rs => byT ss rs
  | .nack fm to ps => numsS 4 [fm, to] ++ prsT ps
  | .pli fm to => numsS 4 [fm, to]
  | .fir fm os => numsS 4 [fm, 0] ++ orsT os
  | .remb fm rt ss => remT fm rt ss
  | .other _ _ bd => bd
def knK (kd ct : Int) : Prop := (200 ≤ kd ∧ kd ≤ 203) ∨ (kd = 205 ∧ ct = 1) ∨ (kd = 206 ∧ (ct = 1 ∨ ct = 4 ∨ ct = 15))
/-- packets that may be, but for their size -/
def okK : Pkt → Prop
  | .sender ss ntp t pk oc bl => in32 ss ∧ in64 ntp ∧ in32 t ∧ in32 pk ∧ in32 oc ∧ bl.length ≤ 31 ∧ ∀ b ∈ bl, b.ok ∧ b.tt ≤ 16777215
  | .receiver ss bl => in32 ss ∧ bl.length ≤ 31 ∧ ∀ b ∈ bl, b.ok ∧ b.tt ≤ 16777215
  | .sdes ch => ch.length ≤ 31 ∧ ∀ c ∈ ch, in32 c.1 ∧ c.2.length ≤ 1000 ∧ ∀ x ∈ c.2, in8 x.1 ∧ x.1 ≠ 0 ∧ x.2.size ≤ 255
  | .bye ss rs => ss.length ≤ 31 ∧ (∀ x ∈ ss, in32 x) ∧ rs.size ≤ 255
  | .nack fm to ps => in32 fm ∧ in32 to ∧ ps.length ≤ 10000 ∧ ∀ x ∈ ps, in16 x.1 ∧ in16 x.2
  | .pli fm to => in32 fm ∧ in32 to
  | .fir fm os => in32 fm ∧ os.length ≤ 10000 ∧ ∀ x ∈ os, in32 x.1 ∧ in8 x.2
  | .remb fm rt ss => in32 fm ∧ in64 rt ∧ rt / 2 ^ exM rt * 2 ^ exM rt = rt ∧ ss.length ≤ 255 ∧ ∀ x ∈ ss, in32 x
  | .other kd ct bd => 192 ≤ kd ∧ kd ≤ 223 ∧ 0 ≤ ct ∧ ct ≤ 31 ∧ bd.size % 4 = 0 ∧ bd.size ≤ 100000 ∧ ¬ knK kd ct
theorem hSender (ss ntp t pk oc : Int) (A : Option Addr) (n c : Nat) (hn : n ≤ 31) : Fn Try.prog 112 #[.agg #[.int .u32 ss, .int .u64 ntp, .int .u32 t, .int .u32 pk, .int .u32 oc, .slice A n c]] [] [] (fun u L' R' => u = .tuple #[.int .u8 200, .int .u8 n] ∧ L' = [] ∧ R' = []) := by
  refine fn_intro Try.func112 rfl Try.ntmps112 rfl (fun E => ?_)
  (repeat (first | ((first | (apply wo_v; rfl) ); (· first | (apply pv_ev; rfl) )) | apply wo_nil | apply wc_seq | apply wc_region | (apply wo_box1; rfl; rfl; rfl; intro bx) | (apply wo_boxa; rfl; rfl; intro bx) ))
  (refine wc_quiet mixed (by kernel_rfl) ?_; (repeat (first | ((first | (apply hd_v; rfl) ); (· first | (apply pv_ev; rfl) | (apply pv_fld; rfl) | (apply g_load; first | (apply pv_ld; rfl; (· (repeat (first | apply sel_here ))); rfl) ) | (apply g_bi; first | (apply pv_len_sl; rfl) ) | (apply g_conv; first | (apply a_conv; rfl; infer_instance; infer_instance; infer_instance; omega) ) )) | apply Hd.nil | apply wc_ret )))
  exact retv rfl (by (repeat (first | apply RV.nil | (apply RV.tmp; rfl) )); done) (⟨rfl, rfl, rfl⟩) (by (repeat (first | apply sub_nil )); done) (by first | exact fun _ h => h | (intro r hr; cases hr; done) | (simp; done) | exact fun _ h => List.mem_append_left _ h | (intro r hr; simp [hr]; done))
theorem hReceiver (ss : Int) (A : Option Addr) (n c : Nat) (hn : n ≤ 31) : Fn Try.prog 115 #[.agg #[.int .u32 ss, .slice A n c]] [] [] (fun u L' R' => u = .tuple #[.int .u8 201, .int .u8 n] ∧ L' = [] ∧ R' = []) := by
  refine fn_intro Try.func115 rfl Try.ntmps115 rfl (fun E => ?_)
  (repeat (first | ((first | (apply wo_v; rfl) ); (· first | (apply pv_ev; rfl) )) | apply wo_nil | apply wc_seq | apply wc_region | (apply wo_box1; rfl; rfl; rfl; intro bx) | (apply wo_boxa; rfl; rfl; intro bx) ))
  (refine wc_quiet mixed (by kernel_rfl) ?_; (repeat (first | ((first | (apply hd_v; rfl) ); (· first | (apply pv_ev; rfl) | (apply pv_fld; rfl) | (apply g_load; first | (apply pv_ld; rfl; (· (repeat (first | apply sel_here ))); rfl) ) | (apply g_bi; first | (apply pv_len_sl; rfl) ) | (apply g_conv; first | (apply a_conv; rfl; infer_instance; infer_instance; infer_instance; omega) ) )) | apply Hd.nil | apply wc_ret )))
  exact retv rfl (by (repeat (first | apply RV.nil | (apply RV.tmp; rfl) )); done) (⟨rfl, rfl, rfl⟩) (by (repeat (first | apply sub_nil )); done) (by first | exact fun _ h => h | (intro r hr; cases hr; done) | (simp; done) | exact fun _ h => List.mem_append_left _ h | (intro r hr; simp [hr]; done))
theorem hSdes (A : Option Addr) (n c : Nat) (hn : n ≤ 31) : Fn Try.prog 119 #[.agg #[.slice A n c]] [] [] (fun u L' R' => u = .tuple #[.int .u8 202, .int .u8 n] ∧ L' = [] ∧ R' = []) := by
  refine fn_intro Try.func119 rfl Try.ntmps119 rfl (fun E => ?_)
  (repeat (first | ((first | (apply wo_v; rfl) ); (· first | (apply pv_ev; rfl) )) | apply wo_nil | apply wc_seq | apply wc_region | (apply wo_box1; rfl; rfl; rfl; intro bx) | (apply wo_boxa; rfl; rfl; intro bx) ))
  (refine wc_quiet mixed (by kernel_rfl) ?_; (repeat (first | ((first | (apply hd_v; rfl) ); (· first | (apply pv_ev; rfl) | (apply pv_fld; rfl) | (apply g_load; first | (apply pv_ld; rfl; (· (repeat (first | apply sel_here ))); rfl) ) | (apply g_bi; first | (apply pv_len_sl; rfl) ) | (apply g_conv; first | (apply a_conv; rfl; infer_instance; infer_instance; infer_instance; omega) ) )) | apply Hd.nil | apply wc_ret )))
  exact retv rfl (by (repeat (first | apply RV.nil | (apply RV.tmp; rfl) )); done) (⟨rfl, rfl, rfl⟩) (by (repeat (first | apply sub_nil )); done) (by first | exact fun _ h => h | (intro r hr; cases hr; done) | (simp; done) | exact fun _ h => List.mem_append_left _ h | (intro r hr; simp [hr]; done))
theorem hBye (rs : ByteArray) (A : Option Addr) (n c : Nat) (hn : n ≤ 31) : Fn Try.prog 117 #[.agg #[.slice A n c, .string rs]] [] [] (fun u L' R' => u = .tuple #[.int .u8 203, .int .u8 n] ∧ L' = [] ∧ R' = []) := by
  refine fn_intro Try.func117 rfl Try.ntmps117 rfl (fun E => ?_)
  (repeat (first | ((first | (apply wo_v; rfl) ); (· first | (apply pv_ev; rfl) )) | apply wo_nil | apply wc_seq | apply wc_region | (apply wo_box1; rfl; rfl; rfl; intro bx) | (apply wo_boxa; rfl; rfl; intro bx) ))
  (refine wc_quiet mixed (by kernel_rfl) ?_; (repeat (first | ((first | (apply hd_v; rfl) ); (· first | (apply pv_ev; rfl) | (apply pv_fld; rfl) | (apply g_load; first | (apply pv_ld; rfl; (· (repeat (first | apply sel_here ))); rfl) ) | (apply g_bi; first | (apply pv_len_sl; rfl) ) | (apply g_conv; first | (apply a_conv; rfl; infer_instance; infer_instance; infer_instance; omega) ) )) | apply Hd.nil | apply wc_ret )))
  exact retv rfl (by (repeat (first | apply RV.nil | (apply RV.tmp; rfl) )); done) (⟨rfl, rfl, rfl⟩) (by (repeat (first | apply sub_nil )); done) (by first | exact fun _ h => h | (intro r hr; cases hr; done) | (simp; done) | exact fun _ h => List.mem_append_left _ h | (intro r hr; simp [hr]; done))
theorem hFir (f0 : Int) (A : Option Addr) (n c : Nat) : Fn Try.prog 106 #[.agg #[.int .u32 f0, .slice A n c]] [] [] (fun u L' R' => u = .tuple #[.int .u8 206, .int .u8 4] ∧ L' = [] ∧ R' = []) := by
  refine fn_intro Try.func106 rfl Try.ntmps106 rfl (fun E => ?_)
  (repeat (first | ((first | (apply wo_v; rfl) ); (· first | (apply pv_ev; rfl) )) | apply wo_nil | apply wc_seq | apply wc_region | apply wc_ret | (apply wo_box1; rfl; rfl; rfl; intro bx) | (apply wo_boxa; rfl; rfl; intro bx) ))
  exact retv rfl (by (repeat (first | apply RV.nil | (apply RV.tmp; rfl) )); done) (⟨rfl, rfl, rfl⟩) (by (repeat (first | apply sub_nil )); done) (by first | exact fun _ h => h | (intro r hr; cases hr; done) | (simp; done) | exact fun _ h => List.mem_append_left _ h | (intro r hr; simp [hr]; done))
theorem hRemb (f0 rt : Int) (A : Option Addr) (n c : Nat) : Fn Try.prog 108 #[.agg #[.int .u32 f0, .int .u64 rt, .slice A n c]] [] [] (fun u L' R' => u = .tuple #[.int .u8 206, .int .u8 15] ∧ L' = [] ∧ R' = []) := by
  refine fn_intro Try.func108 rfl Try.ntmps108 rfl (fun E => ?_)
  (repeat (first | ((first | (apply wo_v; rfl) ); (· first | (apply pv_ev; rfl) )) | apply wo_nil | apply wc_seq | apply wc_region | apply wc_ret | (apply wo_box1; rfl; rfl; rfl; intro bx) | (apply wo_boxa; rfl; rfl; intro bx) ))
  exact retv rfl (by (repeat (first | apply RV.nil | (apply RV.tmp; rfl) )); done) (⟨rfl, rfl, rfl⟩) (by (repeat (first | apply sub_nil )); done) (by first | exact fun _ h => h | (intro r hr; cases hr; done) | (simp; done) | exact fun _ h => List.mem_append_left _ h | (intro r hr; simp [hr]; done))
theorem hOther (kd ct : Int) (bd : ByteArray) : Fn Try.prog 110 #[.agg #[.int .u8 kd, .int .u8 ct, .string bd]] [] [] (fun u L' R' => u = .tuple #[.int .u8 kd, .int .u8 ct] ∧ L' = [] ∧ R' = []) := by
  refine fn_intro Try.func110 rfl Try.ntmps110 rfl (fun E => ?_)
  (repeat (first | ((first | (apply wo_v; rfl) ); (· first | (apply pv_ev; rfl) )) | apply wo_nil | apply wc_seq | apply wc_region | (apply wo_box1; rfl; rfl; rfl; intro bx) | (apply wo_boxa; rfl; rfl; intro bx) ))
  (refine wc_quiet mixed (by kernel_rfl) ?_; (repeat (first | ((first | (apply hd_v; rfl) ); (· first | (apply pv_ev; rfl) | (apply pv_fld; rfl) | (apply g_load; first | (apply pv_ld; rfl; (· (repeat (first | apply sel_here ))); rfl) ) )) | apply Hd.nil | apply wc_ret )))
  exact retv rfl (by (repeat (first | apply RV.nil | (apply RV.tmp; rfl) )); done) (⟨rfl, rfl, rfl⟩) (by (repeat (first | apply sub_nil )); done) (by first | exact fun _ h => h | (intro r hr; cases hr; done) | (simp; done) | exact fun _ h => List.mem_append_left _ h | (intro r hr; simp [hr]; done))
theorem tSender (R : List Ro) (ss ntp t pk oc : Int) (l : List Bk) (A : Option Addr) (n c : Nat) (hS : SQ R 7 A n c (blkV l)) (hl : l.length ≤ 10000) (hb : ∀ b ∈ l, b.ok) (h1 : in32 ss) (h2 : in64 ntp) (h3 : in32 t) (h4 : in32 pk) (h5 : in32 oc) : PtC R (.iface 130 (.agg #[.int .u32 ss, .int .u64 ntp, .int .u32 t, .int .u32 pk, .int .u32 oc, .slice A n c])) (txK (.sender ss ntp t pk oc l)) := fun g => by
  refine fn_intro Try.func29 rfl Try.ntmps29 rfl (fun E => ?_)
  (repeat (first | ((first | (apply wo_v; rfl) ); (· first | (apply pv_ev; rfl) | (apply pv_tas; rfl; infer_instance) )) | apply wo_nil | apply wc_seq | apply wc_region | (apply wc_true; rfl) ))
  (refine wo_inv rfl inferInstance (pSender R g ss ntp t pk oc l A n c hS hl hb h1 h2 h3 h4 h5) rfl (by (repeat (first | apply sub_nil )); done) (by first | exact fun _ h => h | (intro r hr; cases hr; done) | (simp; done) | exact fun _ h => List.mem_append_left _ h | (intro r hr; simp [hr]; done)) rfl ?_; rintro v L' R' ⟨p5, ao5, c5, rfl, rfl, rfl, hw5⟩ H' hH RR hR; simp only [List.cons_append, List.nil_append] at hH hR; subst hH; have hR := hR.symm; subst hR)
  (repeat (first | apply wo_nil ))
  exact ret0 rfl ⟨p5, ao5, c5, rfl, rfl, rfl, hw5⟩ (by (repeat (first | apply sub_nil )); done) (by first | exact fun _ h => h | (intro r hr; cases hr; done) | (simp; done) | exact fun _ h => List.mem_append_left _ h | (intro r hr; simp [hr]; done))
theorem tReceiver (R : List Ro) (ss : Int) (l : List Bk) (A : Option Addr) (n c : Nat) (hS : SQ R 7 A n c (blkV l)) (hl : l.length ≤ 10000) (hb : ∀ b ∈ l, b.ok) (h1 : in32 ss) : PtC R (.iface 132 (.agg #[.int .u32 ss, .slice A n c])) (txK (.receiver ss l)) := fun g => by
  refine fn_intro Try.func29 rfl Try.ntmps29 rfl (fun E => ?_)
  (repeat (first | ((first | (apply wo_v; rfl) ); (· first | (apply pv_ev; rfl) | (apply pv_tas; rfl; infer_instance) )) | apply wo_nil | apply wc_seq | apply wc_region | (apply wc_true; rfl) ))
  (refine wo_inv rfl inferInstance (pReceiver R g ss l A n c hS hl hb h1) rfl (by (repeat (first | apply sub_nil )); done) (by first | exact fun _ h => h | (intro r hr; cases hr; done) | (simp; done) | exact fun _ h => List.mem_append_left _ h | (intro r hr; simp [hr]; done)) rfl ?_; rintro v L' R' ⟨p5, ao5, c5, rfl, rfl, rfl, hw5⟩ H' hH RR hR; simp only [List.cons_append, List.nil_append] at hH hR; subst hH; have hR := hR.symm; subst hR)
  (repeat (first | apply wo_nil ))
  exact ret0 rfl ⟨p5, ao5, c5, rfl, rfl, rfl, hw5⟩ (by (repeat (first | apply sub_nil )); done) (by first | exact fun _ h => h | (intro r hr; cases hr; done) | (simp; done) | exact fun _ h => List.mem_append_left _ h | (intro r hr; simp [hr]; done))
theorem tSdes (R : List Ro) (l : List (Int × List (Int × ByteArray))) (rows : List (List Value)) (A : Option Addr) (n c m : Nat) (hS : SQ R 2 A n c rows) (hV : ChsV R l rows) (hl : l.length ≤ 100) (hm : m ≤ 1000) (hb : ∀ c ∈ l, in32 c.1 ∧ c.2.length ≤ m ∧ ∀ x ∈ c.2, in8 x.1 ∧ x.2.size ≤ 255) : PtC R (.iface 157 (.agg #[.slice A n c])) (txK (.sdes l)) := fun g => by
  refine fn_intro Try.func29 rfl Try.ntmps29 rfl (fun E => ?_)
  (repeat (first | ((first | (apply wo_v; rfl) ); (· first | (apply pv_ev; rfl) | (apply pv_tas; rfl; infer_instance) )) | apply wo_nil | apply wc_seq | apply wc_region | (apply wc_true; rfl) ))
  (refine wo_inv rfl inferInstance (pSdes R g l rows A n c m hS hV hl hm hb) rfl (by (repeat (first | apply sub_nil )); done) (by first | exact fun _ h => h | (intro r hr; cases hr; done) | (simp; done) | exact fun _ h => List.mem_append_left _ h | (intro r hr; simp [hr]; done)) rfl ?_; rintro v L' R' ⟨p5, ao5, c5, rfl, rfl, rfl, hw5⟩ H' hH RR hR; simp only [List.cons_append, List.nil_append] at hH hR; subst hH; have hR := hR.symm; subst hR)
  (repeat (first | apply wo_nil ))
  exact ret0 rfl ⟨p5, ao5, c5, rfl, rfl, rfl, hw5⟩ (by (repeat (first | apply sub_nil )); done) (by first | exact fun _ h => h | (intro r hr; cases hr; done) | (simp; done) | exact fun _ h => List.mem_append_left _ h | (intro r hr; simp [hr]; done))
theorem tBye (R : List Ro) (ss : List Int) (rs : ByteArray) (A : Option Addr) (n c : Nat) (hS : SQ R 1 A n c (c32 ss)) (hl : ss.length ≤ 10000) (hb : ∀ x ∈ ss, in32 x) (hrs : rs.size ≤ 255) : PtC R (.iface 136 (.agg #[.slice A n c, .string rs])) (txK (.bye ss rs)) := fun g => by
  refine fn_intro Try.func29 rfl Try.ntmps29 rfl (fun E => ?_)
  (repeat (first | ((first | (apply wo_v; rfl) ); (· first | (apply pv_ev; rfl) | (apply pv_tas; rfl; infer_instance) )) | apply wo_nil | apply wc_seq | apply wc_region | (apply wc_true; rfl) ))
  (refine wo_inv rfl inferInstance (pBye R g ss rs A n c hS hl hb hrs) rfl (by (repeat (first | apply sub_nil )); done) (by first | exact fun _ h => h | (intro r hr; cases hr; done) | (simp; done) | exact fun _ h => List.mem_append_left _ h | (intro r hr; simp [hr]; done)) rfl ?_; rintro v L' R' ⟨p5, ao5, c5, rfl, rfl, rfl, hw5⟩ H' hH RR hR; simp only [List.cons_append, List.nil_append] at hH hR; subst hH; have hR := hR.symm; subst hR)
  (repeat (first | apply wo_nil ))
  exact ret0 rfl ⟨p5, ao5, c5, rfl, rfl, rfl, hw5⟩ (by (repeat (first | apply sub_nil )); done) (by first | exact fun _ h => h | (intro r hr; cases hr; done) | (simp; done) | exact fun _ h => List.mem_append_left _ h | (intro r hr; simp [hr]; done))
theorem tFir (R : List Ro) (f0 : Int) (l : List (Int × Int)) (A : Option Addr) (n c : Nat) (hS : SQ R 2 A n c (ordV l)) (hl : l.length ≤ 10000) (h1 : in32 f0) (hb : ∀ x ∈ l, in32 x.1 ∧ in8 x.2) : PtC R (.iface 106 (.agg #[.int .u32 f0, .slice A n c])) (txK (.fir f0 l)) := fun g => by
  refine fn_intro Try.func29 rfl Try.ntmps29 rfl (fun E => ?_)
  (repeat (first | ((first | (apply wo_v; rfl) ); (· first | (apply pv_ev; rfl) | (apply pv_tas; rfl; infer_instance) )) | apply wo_nil | apply wc_seq | apply wc_region | (apply wc_true; rfl) ))
  (refine wo_inv rfl inferInstance (pFir R g f0 l A n c hS hl h1 hb) rfl (by (repeat (first | apply sub_nil )); done) (by first | exact fun _ h => h | (intro r hr; cases hr; done) | (simp; done) | exact fun _ h => List.mem_append_left _ h | (intro r hr; simp [hr]; done)) rfl ?_; rintro v L' R' ⟨p5, ao5, c5, rfl, rfl, rfl, hw5⟩ H' hH RR hR; simp only [List.cons_append, List.nil_append] at hH hR; subst hH; have hR := hR.symm; subst hR)
  (repeat (first | apply wo_nil ))
  exact ret0 rfl ⟨p5, ao5, c5, rfl, rfl, rfl, hw5⟩ (by (repeat (first | apply sub_nil )); done) (by first | exact fun _ h => h | (intro r hr; cases hr; done) | (simp; done) | exact fun _ h => List.mem_append_left _ h | (intro r hr; simp [hr]; done))
theorem tRemb (R : List Ro) (f0 rt : Int) (ss : List Int) (A : Option Addr) (n c : Nat) (hS : SQ R 1 A n c (c32 ss)) (hl : ss.length ≤ 255) (hb : ∀ x ∈ ss, in32 x) (h1 : in32 f0) (h2 : in64 rt) : PtC R (.iface 111 (.agg #[.int .u32 f0, .int .u64 rt, .slice A n c])) (txK (.remb f0 rt ss)) := fun g => by
  refine fn_intro Try.func29 rfl Try.ntmps29 rfl (fun E => ?_)
  (repeat (first | ((first | (apply wo_v; rfl) ); (· first | (apply pv_ev; rfl) | (apply pv_tas; rfl; infer_instance) )) | apply wo_nil | apply wc_seq | apply wc_region | (apply wc_true; rfl) ))
  (refine wo_inv rfl inferInstance (pRemb R g f0 rt ss A n c hS hl hb h1 h2) rfl (by (repeat (first | apply sub_nil )); done) (by first | exact fun _ h => h | (intro r hr; cases hr; done) | (simp; done) | exact fun _ h => List.mem_append_left _ h | (intro r hr; simp [hr]; done)) rfl ?_; rintro v L' R' ⟨p5, ao5, c5, rfl, rfl, rfl, hw5⟩ H' hH RR hR; simp only [List.cons_append, List.nil_append] at hH hR; subst hH; have hR := hR.symm; subst hR)
  (repeat (first | apply wo_nil ))
  exact ret0 rfl ⟨p5, ao5, c5, rfl, rfl, rfl, hw5⟩ (by (repeat (first | apply sub_nil )); done) (by first | exact fun _ h => h | (intro r hr; cases hr; done) | (simp; done) | exact fun _ h => List.mem_append_left _ h | (intro r hr; simp [hr]; done))
theorem tOther (R : List Ro) (kd ct : Int) (bd : ByteArray) (hb : bd.size ≤ 100000) : PtC R (.iface 114 (.agg #[.int .u8 kd, .int .u8 ct, .string bd])) (txK (.other kd ct bd)) := fun g => by
  refine fn_intro Try.func29 rfl Try.ntmps29 rfl (fun E => ?_)
  (repeat (first | ((first | (apply wo_v; rfl) ); (· first | (apply pv_ev; rfl) | (apply pv_tas; rfl; infer_instance) )) | apply wo_nil | apply wc_seq | apply wc_region | (apply wc_true; rfl) ))
  (refine wo_inv rfl inferInstance (pOther R g kd ct bd hb) rfl (by (repeat (first | apply sub_nil )); done) (by first | exact fun _ h => h | (intro r hr; cases hr; done) | (simp; done) | exact fun _ h => List.mem_append_left _ h | (intro r hr; simp [hr]; done)) rfl ?_; rintro v L' R' ⟨p5, ao5, c5, rfl, rfl, rfl, hw5⟩ H' hH RR hR; simp only [List.cons_append, List.nil_append] at hH hR; subst hH; have hR := hR.symm; subst hR)
  (repeat (first | apply wo_nil ))
  exact ret0 rfl ⟨p5, ao5, c5, rfl, rfl, rfl, hw5⟩ (by (repeat (first | apply sub_nil )); done) (by first | exact fun _ h => h | (intro r hr; cases hr; done) | (simp; done) | exact fun _ h => List.mem_append_left _ h | (intro r hr; simp [hr]; done))
/-- a packet that may be is written -/
theorem wrK {R : List Ro} : ∀ {p : Pkt} {v : Value}, okK p → PkV R p v → HdC v (hdK p).1 (hdK p).2 ∧ PtC R v (txK p)
  | .sender ss ntp t pk oc bl, v, h, hv => by
    obtain ⟨A, n, c, rfl, hS⟩ := hv
    obtain ⟨h1, h2, h3, h4, h5, h6, h7⟩ := h
    have hn : n = bl.length := by rw [← hS.len, blkV_len]
    subst hn
    exact ⟨⟨_, _, _, rfl, inferInstance, inferInstance, hSender ss ntp t pk oc A _ c h6⟩, tSender R ss ntp t pk oc bl A _ c hS (by omega) (fun b hb => (h7 b hb).1) h1 h2 h3 h4 h5⟩
  | .receiver ss bl, v, h, hv => by
    obtain ⟨A, n, c, rfl, hS⟩ := hv
    obtain ⟨h1, h6, h7⟩ := h
    have hn : n = bl.length := by rw [← hS.len, blkV_len]
    subst hn
    exact ⟨⟨_, _, _, rfl, inferInstance, inferInstance, hReceiver ss A _ c h6⟩, tReceiver R ss bl A _ c hS (by omega) (fun b hb => (h7 b hb).1) h1⟩
  | .sdes ch, v, h, hv => by
    obtain ⟨A, n, c, rows, rfl, hS, hV⟩ := hv
    obtain ⟨h1, h2⟩ := h
    have hn : n = ch.length := by rw [← hS.len, hV.1]
    subst hn
    exact ⟨⟨_, _, _, rfl, inferInstance, inferInstance, hSdes A _ c h1⟩, tSdes R ch rows A _ c 1000 hS hV (by omega) (by omega) (fun c hc => ⟨(h2 c hc).1, (h2 c hc).2.1, fun x hx => ⟨((h2 c hc).2.2 x hx).1, ((h2 c hc).2.2 x hx).2.2⟩⟩)⟩
  | .bye ss rs, v, h, hv => by
    obtain ⟨A, n, c, rfl, hS⟩ := hv
    obtain ⟨h1, h2, h3⟩ := h
    have hn : n = ss.length := by rw [← hS.len, c32_len]
    subst hn
    exact ⟨⟨_, _, _, rfl, inferInstance, inferInstance, hBye rs A _ c h1⟩, tBye R ss rs A _ c hS (by omega) h2 h3⟩
  | .nack fm to ps, v, h, hv => by
    obtain ⟨A, n, c, rfl, hS⟩ := hv
    obtain ⟨h1, h2, h3, h4⟩ := h
    exact ⟨dNack fm to A n c, tNack R fm to ps A n c hS h3 h1 h2 h4⟩
  | .pli fm to, v, h, hv => by
    obtain rfl := hv
    exact ⟨dPli fm to, tPli R fm to h.1 h.2⟩
  | .fir fm os, v, h, hv => by
    obtain ⟨A, n, c, rfl, hS⟩ := hv
    obtain ⟨h1, h2, h3⟩ := h
    exact ⟨⟨_, _, _, rfl, inferInstance, inferInstance, hFir fm A n c⟩, tFir R fm os A n c hS h2 h1 h3⟩
  | .remb fm rt ss, v, h, hv => by
    obtain ⟨A, n, c, rfl, hS⟩ := hv
    obtain ⟨h1, h2, _, h3, h4⟩ := h
    exact ⟨⟨_, _, _, rfl, inferInstance, inferInstance, hRemb fm rt A n c⟩, tRemb R fm rt ss A n c hS h3 h4 h1 h2⟩
  | .other kd ct bd, v, h, hv => by
    obtain rfl := hv
    obtain ⟨_, _, _, _, _, h6, _⟩ := h
    exact ⟨⟨_, _, _, rfl, inferInstance, inferInstance, hOther kd ct bd⟩, tOther R kd ct bd h6⟩
theorem hdK_in {p : Pkt} (h : okK p) : in8 (hdK p).1 ∧ 0 ≤ (hdK p).2 ∧ (hdK p).2 ≤ 31 ∧ 192 ≤ (hdK p).1 ∧ (hdK p).1 ≤ 223 := by
  unfold in8
  cases p with
  | sender ss ntp t pk oc bl => obtain ⟨h1, h2, h3, h4, h5, h6, h7⟩ := h; simp only [hdK]; omega
  | receiver ss bl => obtain ⟨h1, h6, h7⟩ := h; simp only [hdK]; omega
  | sdes ch => obtain ⟨h1, h2⟩ := h; simp only [hdK]; omega
  | bye ss rs => obtain ⟨h1, h2⟩ := h; simp only [hdK]; omega
  | nack fm to ps => simp only [hdK]; omega
  | pli fm to => simp only [hdK]; omega
  | fir fm os => simp only [hdK]; omega
  | remb fm rt ss => simp only [hdK]; omega
  | other kd ct bd => obtain ⟨h1, h2, h3, h4, _⟩ := h; simp only [hdK]; omega
theorem txK_size {p : Pkt} (h : okK p) : (txK p).size ≤ 8000000 := by
  cases p with
  | sender ss ntp t pk oc bl =>
    obtain ⟨h1, h2, h3, h4, h5, h6, h7⟩ := h
    simp only [txK, ByteArray.size_append, numsS_size, bksT_size, List.length_cons, List.length_nil]; omega
  | receiver ss bl =>
    obtain ⟨h1, h6, h7⟩ := h
    simp only [txK, ByteArray.size_append, numsS_size, bksT_size, List.length_cons, List.length_nil]; omega
  | sdes ch =>
    obtain ⟨h1, h2⟩ := h
    have := chsT_size (l := ch) (m := 1000) (fun c hc => ⟨(h2 c hc).2.1, fun x hx => ((h2 c hc).2.2 x hx).2.2⟩)
    have h3 : (8 + 257 * 1000) * ch.length ≤ 257008 * 31 := Nat.mul_le_mul (by omega) h1
    simp only [txK]; omega
  | bye ss rs =>
    obtain ⟨h1, h2, h3⟩ := h
    have h4 := pad4_size (numsS 4 ss ++ numsS 1 [(rs.size : Int)] ++ rs)
    simp only [ByteArray.size_append, numsS_size, List.length_cons, List.length_nil] at h4
    simp only [txK, byT]
    split
    · rw [numsS_size]; omega
    · omega
  | nack fm to ps => obtain ⟨h1, h2, h3, h4⟩ := h; simp only [txK, ByteArray.size_append, numsS_size, prsT_size, List.length_cons, List.length_nil]; omega
  | pli fm to => simp only [txK, numsS_size, List.length_cons, List.length_nil]; omega
  | fir fm os => obtain ⟨h1, h2, h3⟩ := h; simp only [txK, ByteArray.size_append, numsS_size, orsT_size, List.length_cons, List.length_nil]; omega
  | remb fm rt ss =>
    obtain ⟨h1, h2, _, h3, h4⟩ := h
    have : rembS.size = 4 := rfl
    simp only [txK, remT, ByteArray.size_append, numsS_size, List.length_cons, List.length_nil]; omega
  | other kd ct bd => obtain ⟨h1, h2, h3, h4, h5, h6, h7⟩ := h; simp only [txK]; omega
def txs (l : List Pkt) : ByteArray := all4 (l.map fun p => ((hdK p).1, (hdK p).2, txK p))
end Go.Proofs.Yteaccbbmphcmnaa

/-
  Layer 5, plain: packets that may be, written, are read back.
-/
namespace Go.Proofs.Yteaccbbmphcmnaa
set_option linter.unusedSimpArgs false
set_option linter.unusedVariables false
open Go.RowKit
set_option maxRecDepth 100000
attribute [local irreducible] ByteArray.extract

theorem rdB_all (s : ByteArray) : rdB s 0 s.size = (s, E0, 0) := by
  have := rdB_front s E0 s.size rfl
  rwa [append_E0] at this
theorem nums1 (k : Nat) (x : Int) : numsS k [x] = numS k x := numsS_one k x
theorem b1_nums {x : Int} (h : in8 x) : numsS 1 [x] = b1 x := by
  rw [nums1]
  show E0 ++ b1 (x % 256) = b1 x
  rw [E0_append, Int.emod_eq_of_lt h.1 (by have := h.2; omega)]
theorem nums_cons (k : Nat) (x : Int) (l : List Int) (z : ByteArray) : numsS k (x :: l) ++ z = numS k x ++ (numsS k l ++ z) := by
  show (numS k x ++ numsS k l) ++ z = _
  rw [ByteArray.append_assoc]
theorem nums_nil (k : Nat) (z : ByteArray) : numsS k [] ++ z = z := E0_append z
theorem tBk_f {b : Bk} (h : b.ok ∧ b.tt ≤ 16777215) (z : ByteArray) : tBk (bkT b ++ z, 0) = (b, z, 0) := by
  obtain ⟨x1, x2, x3, x4, x5, x6, x7⟩ := b
  obtain ⟨⟨k1, k2, k3, k4, k5, k6, k7⟩, k8⟩ := h
  dsimp only at k1 k2 k3 k4 k5 k6 k7 k8
  unfold tBk bkT
  simp only [ByteArray.append_assoc]
  rw [nums1, uK4_f k1]
  dsimp only
  rw [b1_nums k2, uK1_f k2]
  dsimp only
  rw [nums1, uK3_f ⟨k3.1, k8⟩]
  dsimp only
  rw [nums_cons, uK4_f k4]
  dsimp only
  rw [nums_cons, uK4_f k5]
  dsimp only
  rw [nums_cons, uK4_f k6]
  dsimp only
  rw [nums_cons, nums_nil, uK4_f k7]
theorem bksT_cat : ∀ l, bksT l = catT bkT l
  | [] => rfl
  | x :: l => by
    show bkT x ++ bksT l = bkT x ++ catT bkT l
    rw [bksT_cat l]
theorem repBk {l : List Bk} (h : ∀ b ∈ l, b.ok ∧ b.tt ≤ 16777215) : repM tBk l.length (bksT l, 0) = (l, E0, 0) := by
  have := repM_front (f := tBk) (T := bkT) (l := l) (fun x hx z => tBk_f (h x hx) z) E0
  rwa [append_E0, ← bksT_cat] at this
theorem tSn_f {ss ntp t pk oc : Int} {l : List Bk} (h1 : in32 ss) (h2 : in64 ntp) (h3 : in32 t) (h4 : in32 pk) (h5 : in32 oc) (h : ∀ b ∈ l, b.ok ∧ b.tt ≤ 16777215) : tSn l.length (txK (.sender ss ntp t pk oc l), 0) = (.sender ss ntp t pk oc l, E0, 0) := by
  unfold tSn txK
  simp only [ByteArray.append_assoc]
  rw [nums1, uK4_f h1]
  dsimp only
  rw [nums1, uK8_f h2]
  dsimp only
  rw [nums_cons, uK4_f h3]
  dsimp only
  rw [nums_cons, uK4_f h4]
  dsimp only
  rw [nums_cons, nums_nil, uK4_f h5]
  dsimp only
  rw [show ((l.length : Int)).toNat = l.length from rfl, repBk h]
theorem tRv_f {ss : Int} {l : List Bk} (h1 : in32 ss) (h : ∀ b ∈ l, b.ok ∧ b.tt ≤ 16777215) : tRv l.length (txK (.receiver ss l), 0) = (.receiver ss l, E0, 0) := by
  show tRv l.length (numsS 4 [ss] ++ bksT l, 0) = _
  unfold tRv
  rw [nums1, uK4_f h1]
  dsimp only
  rw [show ((l.length : Int)).toNat = l.length from rfl, repBk h]
theorem nums_cat (k : Nat) : ∀ l, numsS k l = catT (numS k) l
  | [] => rfl
  | x :: l => by
    show numS k x ++ numsS k l = numS k x ++ catT (numS k) l
    rw [nums_cat k l]
theorem rep4 {l : List Int} (h : ∀ x ∈ l, in32 x) (z : ByteArray) : repM (uK 4) l.length (numsS 4 l ++ z, 0) = (l, z, 0) := by
  rw [nums_cat]
  exact repM_front (f := uK 4) (T := numS 4) (fun x hx z => uK4_f (h x hx) z) z
theorem til4 {l : List Int} (h : ∀ x ∈ l, in32 x) (n : Nat) (hn : (numsS 4 l).size ≤ n) : tilM (uK 4) n (numsS 4 l, 0) = (l, E0, 0) := by
  rw [nums_cat] at *
  exact tilM_front (f := uK 4) (T := numS 4) (fun x => by rw [numS_size]; omega) (fun x hx z => uK4_f (h x hx) z) n hn
theorem pad4_zb (s : ByteArray) : pad4 s = s ++ zb (padJ s.size 4) := rfl
theorem byE_f {ss : List Int} {rs : ByteArray} (h1 : ∀ x ∈ ss, in32 x) (h2 : rs.size ≤ 255) : byE (repM (uK 4) ss.length (byT ss rs, 0)) = (.bye ss rs, E0, 0) := by
  unfold byT
  by_cases h0 : rs = E0
  · rw [if_pos h0]
    have := rep4 h1 E0
    rw [append_E0] at this
    rw [this]
    unfold byE
    dsimp only
    rw [if_pos (show E0.size = 0 from rfl), h0]
  · rw [if_neg h0, pad4_zb]
    simp only [ByteArray.append_assoc]
    rw [rep4 h1]
    unfold byE
    have hz : in8 (rs.size : Int) := ⟨by omega, by omega⟩
    rw [b1_nums hz]
    dsimp only
    rw [if_neg (by rw [ByteArray.size_append, b1_size]; omega), uK1_f hz]
    dsimp only
    rw [rdB_front rs _ _ rfl]
    dsimp only
    rw [rdB_all]
theorem orsT_cat : ∀ l, orsT l = catT orT l
  | [] => rfl
  | x :: l => by
    show orT x ++ orsT l = orT x ++ catT orT l
    rw [orsT_cat l]
theorem tOr_f {x : Int × Int} (h : in32 x.1 ∧ in8 x.2) (z : ByteArray) : tOr (orT x ++ z, 0) = (x, z, 0) := by
  unfold tOr orT
  rw [ByteArray.append_assoc, nums1, uK4_f h.1]
  dsimp only
  have e : numsS 1 [x.2, 0, 0, 0] ++ z = b1 x.2 ++ (numsS 1 [0, 0, 0] ++ z) := by
    rw [nums_cons, ← nums1, b1_nums h.2]
  rw [e, uK1_f h.2]
  dsimp only
  rw [rdB_front (numsS 1 [0, 0, 0]) z 3 (by rw [numsS_size]; rfl)]
theorem tFi_f {a : Int} {l : List (Int × Int)} (ha : in32 a) (hl : ∀ x ∈ l, in32 x.1 ∧ in8 x.2) : tFi (numsS 4 [a, 0] ++ orsT l, 0) = (.fir a l, E0, 0) := by
  unfold tFi
  rw [two4, uK4_f ha]
  dsimp only
  rw [uK4_f in32_0]
  dsimp only
  rw [orsT_cat, tilM_front (fun x => by rw [orT_size]; omega) (fun x hx z => tOr_f (hl x hx) z) _ (Nat.le_refl _)]
theorem itmM_f : ∀ {l : List (Int × ByteArray)} {n : Nat}, l.length < n → (∀ x ∈ l, in8 x.1 ∧ x.1 ≠ 0 ∧ x.2.size ≤ 255) → ∀ z, itmM n (itsT l ++ (b1 0 ++ z), 0) = (l, z, 0)
  | [], n, hn, _, z => by
    obtain ⟨m, rfl⟩ : ∃ m, n = m + 1 := ⟨n - 1, by simp at hn; omega⟩
    show itmM (m + 1) (E0 ++ (b1 0 ++ z), 0) = _
    rw [E0_append, itmM, if_neg (by simp), uK1_f in8_0, if_pos rfl]
  | x :: l, n, hn, h, z => by
    obtain ⟨m, rfl⟩ : ∃ m, n = m + 1 := ⟨n - 1, by simp at hn; omega⟩
    obtain ⟨h1, h2, h3⟩ := h x (.head _)
    have hz : in8 (x.2.size : Int) := ⟨by omega, by omega⟩
    have e : itsT (x :: l) ++ (b1 0 ++ z) = b1 x.1 ++ (b1 (x.2.size : Int) ++ (x.2 ++ (itsT l ++ (b1 0 ++ z)))) := by
      show (itT x ++ itsT l) ++ (b1 0 ++ z) = _
      unfold itT
      rw [ByteArray.append_assoc, ByteArray.append_assoc, nums_cons, ← nums1, b1_nums h1, b1_nums hz]
    have e1 : uK 1 (itsT (x :: l) ++ (b1 0 ++ z), 0) = (x.1, b1 (x.2.size : Int) ++ (x.2 ++ (itsT l ++ (b1 0 ++ z))), 0) := by rw [e, uK1_f h1]
    have e2 : itmS (itsT (x :: l) ++ (b1 0 ++ z), 0) = (itsT l ++ (b1 0 ++ z), 0) := by
      unfold itmS
      rw [e1]
      dsimp only
      rw [uK1_f hz]
      dsimp only
      rw [rdB_front x.2 _ _ rfl]
    rw [itmM_step rfl (by rw [e1]; exact h2), e2, itmM_f (by simp at hn; omega) (fun y hy => h y (.tail _ hy)) z, e1]
    dsimp only
    rw [uK1_f hz]
    dsimp only
    rw [rdB_front x.2 _ _ rfl]
theorem itsT_long : ∀ l : List (Int × ByteArray), 2 * l.length ≤ (itsT l).size
  | [] => Nat.zero_le _
  | x :: l => by
    have := itsT_long l
    show _ ≤ (itT x ++ itsT l).size
    unfold itT
    simp only [ByteArray.size_append, numsS_size, List.length_cons, List.length_nil]; omega
theorem tCh_f {c : Int × List (Int × ByteArray)} (h1 : in32 c.1) (h2 : ∀ x ∈ c.2, in8 x.1 ∧ x.1 ≠ 0 ∧ x.2.size ≤ 255) (z : ByteArray) : tCh (chT c ++ z, 0) = (c, z, 0) := by
  obtain ⟨ss, l⟩ := c
  dsimp only at h1 h2
  have hl := itsT_long l
  obtain ⟨m, hm⟩ : ∃ m, (numsS 4 [ss] ++ itsT l ++ numsS 1 [0]).size = m := ⟨_, rfl⟩
  have hm2 : m = 5 + (itsT l).size := by rw [← hm]; simp only [ByteArray.size_append, numsS_size, List.length_cons, List.length_nil]; omega
  have e : chT (ss, l) ++ z = numS 4 ss ++ (itsT l ++ (b1 0 ++ (zb (padJ m 4) ++ z))) := by
    unfold chT
    rw [pad4_zb, hm]
    simp only [ByteArray.append_assoc]
    rw [nums1, b1_nums in8_0]
  have hz : (chT (ss, l) ++ z).size = m + padJ m 4 + z.size := by
    unfold chT
    rw [pad4_zb, hm, ByteArray.size_append, ByteArray.size_append, zb_size, hm]
  unfold tCh
  dsimp only
  rw [hz]
  have e1 : uK 4 (chT (ss, l) ++ z, 0) = (ss, itsT l ++ (b1 0 ++ (zb (padJ m 4) ++ z)), 0) := by rw [e, uK4_f h1]
  rw [e1]
  dsimp only
  rw [itmM_f (by simp only [ByteArray.size_append]; omega) h2]
  unfold chE
  dsimp only
  rw [rdB_front (zb (padJ m 4)) z _ (by rw [zb_size, ByteArray.size_append, zb_size]; unfold padJ; omega)]
theorem chsT_cat : ∀ l, chsT l = catT chT l
  | [] => rfl
  | x :: l => by
    show chT x ++ chsT l = chT x ++ catT chT l
    rw [chsT_cat l]
theorem repCh {l : List (Int × List (Int × ByteArray))} (h : ∀ c ∈ l, in32 c.1 ∧ ∀ x ∈ c.2, in8 x.1 ∧ x.1 ≠ 0 ∧ x.2.size ≤ 255) : repM tCh l.length (chsT l, 0) = (l, E0, 0) := by
  have := repM_front (f := tCh) (T := chT) (l := l) (fun x hx z => tCh_f (h x hx).1 (h x hx).2 z) E0
  rwa [append_E0, ← chsT_cat] at this
theorem shl_f : ∀ (e : Nat) (q : Int), 0 ≤ q → q * 2 ^ e ≤ 18446744073709551615 → shlM e q = (q * 2 ^ e, false)
  | 0, q, _, _ => by rw [shlM]; simp
  | e + 1, q, h0, h => by
    have hp : (0 : Int) < 2 ^ e := Int.pow_pos (by omega)
    have e1 : q * 2 ^ (e + 1) = 2 * q * 2 ^ e := by rw [Int.pow_succ, Int.mul_comm (2 ^ e) 2, ← Int.mul_assoc, Int.mul_comm q 2]
    have h2 : 2 * q ≤ 18446744073709551615 := by
      have : 2 * q * 1 ≤ 2 * q * 2 ^ e := Int.mul_le_mul_of_nonneg_left (by omega) (by omega)
      omega
    rw [shlM, if_neg (by omega), shl_f e (2 * q) (by omega) (by omega), e1]
theorem tRe_f {a rt : Int} {l : List Int} (ha : in32 a) (hr : in64 rt) (hx : rt / 2 ^ exM rt * 2 ^ exM rt = rt) (hn : l.length ≤ 255) (hl : ∀ x ∈ l, in32 x) : tRe (remT a rt l, 0) = (.remb a rt l, E0, 0) := by
  have hv := remV_b hr
  have hq := exM_q hr
  have he := exM_le hr
  have hn8 : in8 (l.length : Int) := ⟨by omega, by omega⟩
  unfold tRe remT
  simp only [ByteArray.append_assoc]
  rw [two4, uK4_f ha]
  dsimp only
  rw [uK4_f in32_0]
  dsimp only
  have e1 : reA (rembS ++ (numsS 1 [(l.length : Int)] ++ (numsS 3 [remV rt] ++ numsS 4 l)), 0) = (numsS 1 [(l.length : Int)] ++ (numsS 3 [remV rt] ++ numsS 4 l), 0) := by
    unfold reA
    rw [rdB_front rembS _ 4 rfl, if_pos rfl]
  rw [e1, b1_nums hn8, uK1_f hn8]
  dsimp only
  rw [nums1, uK3_f hv]
  dsimp only
  have d1 : remV rt / 262144 = (exM rt : Int) := by unfold remV; omega
  have d2 : remV rt % 262144 = rt / 2 ^ exM rt := by unfold remV; omega
  rw [d1, d2, show ((exM rt : Int)).toNat = exM rt from rfl, shl_f _ _ hq.1 (by rw [hx]; exact hr.2), hx]
  dsimp only
  have e2 : reB false (numsS 4 l, 0) = (numsS 4 l, 0) := rfl
  rw [e2, til4 hl _ (Nat.le_refl _)]
  dsimp only
  unfold reC
  rw [if_pos rfl]
theorem txK_mod {p : Pkt} (h : okK p) : (txK p).size % 4 = 0 := by
  cases p with
  | sender ss ntp t pk oc bl => simp only [txK, ByteArray.size_append, numsS_size, bksT_size, List.length_cons, List.length_nil]; omega
  | receiver ss bl => simp only [txK, ByteArray.size_append, numsS_size, bksT_size, List.length_cons, List.length_nil]; omega
  | sdes ch => exact chsT_mod ch
  | bye ss rs =>
    simp only [txK, byT]
    split
    · rw [numsS_size]; omega
    · exact pad4_mod _
  | nack fm to ps => simp only [txK, ByteArray.size_append, numsS_size, prsT_size, List.length_cons, List.length_nil]; omega
  | pli fm to => simp only [txK, numsS_size, List.length_cons, List.length_nil]
  | fir fm os => simp only [txK, ByteArray.size_append, numsS_size, orsT_size, List.length_cons, List.length_nil]; omega
  | remb fm rt ss =>
    have : rembS.size = 4 := rfl
    simp only [txK, remT, ByteArray.size_append, numsS_size, List.length_cons, List.length_nil]; omega
  | other kd ct bd => exact h.2.2.2.2.1
theorem tkM_f {p : Pkt} (h : okK p) : tkM (txK p, 0) (hdK p).1 (hdK p).2 = (p, E0, 0) := by
  cases p with
  | sender ss ntp t pk oc bl =>
    obtain ⟨h1, h2, h3, h4, h5, h6, h7⟩ := h
    show tkM (txK (.sender ss ntp t pk oc bl), 0) 200 (bl.length : Int) = _
    unfold tkM
    rw [if_pos rfl]
    exact tSn_f h1 h2 h3 h4 h5 h7
  | receiver ss bl =>
    obtain ⟨h1, h6, h7⟩ := h
    show tkM (txK (.receiver ss bl), 0) 201 (bl.length : Int) = _
    unfold tkM
    rw [if_neg (by decide), if_pos rfl]
    exact tRv_f h1 h7
  | sdes ch =>
    obtain ⟨h1, h2⟩ := h
    show tkM (txK (.sdes ch), 0) 202 (ch.length : Int) = _
    unfold tkM
    rw [if_neg (by decide), if_neg (by decide), if_pos rfl]
    show (Pkt.sdes (repM tCh ch.length (chsT ch, 0)).1, (repM tCh ch.length (chsT ch, 0)).2) = _
    rw [repCh (fun c hc => ⟨(h2 c hc).1, (h2 c hc).2.2⟩)]
  | bye ss rs =>
    obtain ⟨h1, h2, h3⟩ := h
    show tkM (txK (.bye ss rs), 0) 203 (ss.length : Int) = _
    unfold tkM
    rw [if_neg (by decide), if_neg (by decide), if_neg (by decide), if_pos rfl]
    exact byE_f h2 h3
  | nack fm to ps =>
    obtain ⟨h1, h2, h3, h4⟩ := h
    show tkM (txK (.nack fm to ps), 0) 205 1 = _
    unfold tkM
    rw [if_neg (by decide), if_neg (by decide), if_neg (by decide), if_neg (by decide), if_pos ⟨rfl, rfl⟩]
    exact tNk_f h1 h2 h4
  | pli fm to =>
    obtain ⟨h1, h2⟩ := h
    show tkM (txK (.pli fm to), 0) 206 1 = _
    unfold tkM
    rw [if_neg (by decide), if_neg (by decide), if_neg (by decide), if_neg (by decide), if_neg (by decide), if_pos ⟨rfl, rfl⟩]
    have h3 := tPl_f h1 h2 E0
    rw [append_E0] at h3
    have h4 : uK 4 (txK (.pli fm to), 0) = (fm, numS 4 to ++ E0, 0) := by rw [append_E0]; exact h3.1
    rw [h4]
    dsimp only
    rw [h3.2]
  | fir fm os =>
    obtain ⟨h1, h2, h3⟩ := h
    show tkM (txK (.fir fm os), 0) 206 4 = _
    unfold tkM
    rw [if_neg (by decide), if_neg (by decide), if_neg (by decide), if_neg (by decide), if_neg (by decide), if_neg (by decide), if_pos ⟨rfl, rfl⟩]
    exact tFi_f h1 h3
  | remb fm rt ss =>
    obtain ⟨h1, h2, h3, h4, h5⟩ := h
    show tkM (txK (.remb fm rt ss), 0) 206 15 = _
    unfold tkM
    rw [if_neg (by decide), if_neg (by decide), if_neg (by decide), if_neg (by decide), if_neg (by decide), if_neg (by decide), if_neg (by decide), if_pos ⟨rfl, rfl⟩]
    exact tRe_f h1 h2 h3 h4 h5
  | other kd ct bd =>
    obtain ⟨h1, h2, h3, h4, h5, h6, h7⟩ := h
    show tkM (bd, 0) kd ct = _
    unfold tkM
    unfold knK at h7
    dsimp only
    rw [if_neg (by omega), if_neg (by omega), if_neg (by omega), if_neg (by omega), if_neg (by omega), if_neg (by omega), if_neg (by omega), if_neg (by omega), rdB_all]
theorem stK_f {p : Pkt} (h : okK p) (hz : (txK p).size ≤ 262000) (z : ByteArray) : stM (one4 ((hdK p).1, (hdK p).2, txK p) ++ z, 0) = (p, z, 0) := by
  obtain ⟨h1, h2, h3, h4, h5⟩ := hdK_in h
  have e := pad4_id (txK_mod h)
  refine stM_front ⟨h4, h5⟩ ⟨h2, by omega⟩ (by rw [e]; omega) ?_
  rw [e, Int.emod_eq_of_lt h2 (by omega), tkM_f h]
theorem one4_txs : ∀ {l : List Pkt} {p : Pkt}, p ∈ l → (txK p).size ≤ (txs l).size
  | q :: l, p, hp => by
    have e : txs (q :: l) = one4 ((hdK q).1, (hdK q).2, txK q) ++ txs l := rfl
    rw [e, ByteArray.size_append, one4_size]
    rcases List.mem_cons.1 hp with rfl | hp
    · have : (txK p).size ≤ (pad4 (txK p)).size := by unfold pad4; rw [ByteArray.size_append]; omega
      dsimp only; omega
    · have := one4_txs hp; omega
/-- packets that may be, written, are read back -/
theorem pk_back5 {l : List Pkt} (h : ∀ p ∈ l, okK p) (h0 : l ≠ []) (hs : (txs l).size ≤ 1500) : pkM (txs l) = (l, 0) := by
  refine pkM_all _ l (by simp) (fun i x p hx hp z => ?_) hs (by simpa using h0)
  rw [List.getElem?_map, hp] at hx
  simp only [Option.map_some, Option.some.injEq] at hx
  subst hx
  have hm := List.mem_of_getElem? hp
  exact stK_f (h p hm) (by have := one4_txs hm; omega) z
/-- their text -/
theorem tTextK (l : List Pkt) (vs : List Value) (A : Option Addr) (n c : Nat) (R : List Ro) (hS : SQ R 1 A n c (one1 vs)) (hV : PksV R l vs) (hok : ∀ p ∈ l, okK p) (hl : l.length ≤ 1000) (hz : ∀ p ∈ l, (txK p).size ≤ 200000) :
    Fn Try.prog 11 #[.slice A n c] [] R (fun v L' R' => v = .string (txs l) ∧ L' = [] ∧ R' = []) := by
  refine tText (l.map fun p => ((hdK p).1, (hdK p).2, txK p)) vs A n c R hS (by rw [hV.1, List.length_map]) (by rw [List.length_map]; exact hl) ?_ ?_ ?_
  · intro x hx
    obtain ⟨p, hp, rfl⟩ := List.mem_map.1 hx
    exact hz p hp
  · intro x hx
    obtain ⟨p, hp, rfl⟩ := List.mem_map.1 hx
    have := hdK_in (hok p hp)
    exact ⟨this.1, show 0 ≤ (hdK p).2 ∧ (hdK p).2 ≤ 255 by omega⟩
  · intro i x v hx hv
    rw [List.getElem?_map] at hx
    cases hp : l[i]? with
    | none => rw [hp] at hx; cases hx
    | some p =>
      rw [hp] at hx
      simp only [Option.map_some, Option.some.injEq] at hx
      subst hx
      obtain ⟨v', h1, h2⟩ := hV.2 i p hp
      obtain rfl : v' = v := Option.some.inj (h1.symm.trans hv)
      exact wrK (hok p (List.mem_of_getElem? hp)) h2
end Go.Proofs.Yteaccbbmphcmnaa
