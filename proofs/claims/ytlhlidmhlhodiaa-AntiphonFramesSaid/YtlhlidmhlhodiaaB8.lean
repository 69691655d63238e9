/-
  Texts of this proof, laid together (part 8 of 8).
-/
import Derived.Test.YtlhlidmhlhodiaaB7
/-
  AntiphonFrames: exactly the frames of which all packets arrived.
-/
namespace Go.Proofs.Ytlhlidmhlhodiaa
set_option linter.unusedSimpArgs false
set_option linter.unusedVariables false
open Go.RowKit
section
variable {P : Program} {N : Nat} {E : Env} {fr : List (Nat × Value)} {hp F : List It} {ro : List Ro} {Kn : St → Prop} {ops : Array Oper} {rest : List Oper} {dst : Option Tmp} {ty t : TypeId} {pos : String} {af : Array Edge} {x y : Operand} {b ck : Nat} {a : Int} {kt e : TypeId} {l : List Me}
theorem wo_mdel [ht : TMap P t kt e] [hk : TInt P kt .i64] {kt' : TypeId} (hx : opd fr x = some (.map (some b))) (hy : opd fr y = some (.int .i64 a)) (hs : hp.Perm (.ob b (mL l ck) :: F)) (hd : dstOk dst N = true)
    (h : WO P N E ops rest ⟨putF dst (.tuple #[]) fr, .ob b (mL (mdel l a) ck) :: F, ro⟩ Kn) : WO P N E ops (⟨dst, .call ⟨.builtin .delete, #[x, y], #[t, kt']⟩, ty, pos, af, none⟩ :: rest) ⟨fr, hp, ro⟩ Kn :=
  wo_eff (L := [_]) hs hd fun ac w ok => by
    have hb : w.heap[b]? = some (mL l ck) := ok.s.get hs
    refine ⟨.tuple #[], [.ob b (mL (mdel l a) ck)], _, ?_, Sat.relay (set_frm hb).1 (set_frm (o' := mL (mdel l a) ck) hb).2, by simpa using h⟩
    simp only [execOp, resolve, List.map_toArray, List.map_cons, List.map_nil, ok.h.eval hx, ok.h.eval hy]; simp [invoke, builtin, run_mdel hb, Result.andThen]
end
/-- what is counted in a map -/
def KV (m : Nat) (kl : List (Int × Value)) : Prop := (kl.map (·.1)).Nodup ∧ ∀ x, alook kl x = none ∨ ∃ c : Int, alook kl x = some (.int .i64 c) ∧ 0 ≤ c ∧ c ≤ (m : Int)
theorem KV.nil : KV 0 [] := ⟨List.nodup_nil, fun x => .inl rfl⟩
theorem KV.put {m : Nat} {kl : List (Int × Value)} (h : KV m kl) (x c : Int) (hc : 0 ≤ c ∧ c ≤ ((m + 1 : Nat) : Int)) : KV (m + 1) (aset kl x (.int .i64 c)) := by
  refine ⟨aset_keys kl x _ h.1, fun y => ?_⟩
  rw [alook_set]
  by_cases hy : y = x
  · rw [if_pos hy]; exact .inr ⟨c, rfl, hc⟩
  · rw [if_neg hy]
    rcases h.2 y with h1 | ⟨c1, h1, h2⟩
    · exact .inl h1
    · exact .inr ⟨c1, h1, by omega⟩
def gV (l : List Me) (x : Int) : Int := match mlk l x with
  | some (.int _ c) => c
  | _ => 0
def gG (l : List Me) (i : Nat) : Bool := decide (gV l (i : Int) ≠ 0)
structure GkOk (l : List Me) : Prop where
  at_ : ∀ x, (mlk l x).getD (.int .i64 0) = .int .i64 (gV l x)
  zero : gG l 0 = false
theorem KV.gok {m : Nat} {kl : List (Int × Value)} (h : KV m kl) : GkOk (mdel (stp 0 kl) 0) := by
  refine ⟨fun x => ?_, ?_⟩
  · by_cases hx : x = 0
    · subst hx
      have h0 := mdel_self (x := 0) (l := stp 0 kl) (by rw [stp_key]; exact h.1)
      unfold gV
      rw [h0]; rfl
    · unfold gV
      rw [mdel_ne hx, stp_lk]
      rcases h.2 x with h1 | ⟨c, h1, _⟩
      · rw [h1]; rfl
      · rw [h1]; rfl
  · have h0 := mdel_self (x := 0) (l := stp 0 kl) (by rw [stp_key]; exact h.1)
    unfold gG gV
    rw [show (((0 : Nat) : Int)) = 0 from rfl, h0]; rfl
theorem mob_mL (kl : List (Int × Value)) : mob .i64 kl = mL (stp 0 kl) kl.length := by
  show Obj.map (mEnt .i64 0 kl).toArray _ = Obj.map (mEs (stp 0 kl)).toArray _
  rw [stp_ent]
theorem wh_len (L : List Sg) (G : Nat → Bool) : ∀ p, (wh L G p).length ≤ p
  | 0 => Nat.le_refl _
  | p + 1 => by
    have := wh_len L G p
    rw [wh]
    split
    · split
      · rw [List.length_append, List.length_singleton]; omega
      · omega
    · omega
theorem FX.flen {L : List Sg} {G : Nat → Bool} {p : Nat} {fs : List (List Nat)} {op : List Nat} (h : FX L G p fs op) : fs.length ≤ L.length := by
  obtain ⟨q, _, _, hf⟩ := h
  have h1 := hf.le
  have := wh_len L G q
  rw [hf.fs]; omega
attribute [local irreducible] Pv WO WC Fn
set_option maxRecDepth 100000
attribute [local irreducible] ByteArray.extract
abbrev c64s (l : List Int) : List (List Value) := l.map fun x => [.int .i64 x]
theorem c64s_at {l : List Int} {j : Nat} {x : Int} (h : l[j]? = some x) : (c64s l)[j]? = some [.int .i64 x] := by rw [List.getElem?_map, h]; rfl
abbrev fH (gm : Nat) (gl : List Me) (ck : Nat) (aL : Option Addr) (cL : Nat) (oo : Option Addr) (oc : Nat) (F : List Fr3) (g bB bM mp mq : Nat) (f B : Int) (L : List Sg) (s : Ig3) : List It := [.ob gm (mL gl ck), pkO' aL L.length cL (prs' (sgs f 0 L)), fO oo oc F, srI g bB bM s.sb s.sm s.cb s.cl mp s.ks, .ob mp (mL (mP f B L s.ws) s.ck), mkI bM (.slice s.ao s.op.length s.c) s.wh s.ml, u7 s.ao s.op.length s.c (gUs B L s.op), bfI bB s.bg (nxv s.bg B s.p) mq s.lo, .ob mq (mL (mB B s.ws) s.ck)]
abbrev fS (g : Nat) (aL : Option Addr) (nL cL gm : Nat) (X : List (Nat × Value)) : List (Nat × Value) := (7, .pointer (some ⟨g, 0, none⟩)) :: (9, .slice aL nL cL) :: (10, .map (some gm)) :: X
abbrev fC (gm : Nat) (gl : List Me) (ck : Nat) (aL : Option Addr) (cL : Nat) (oo : Option Addr) (oc : Nat) (F : List Fr3) (f : Int) (L : List Sg) : List It := [.ob gm (mL gl ck), pkO' aL L.length cL (prs' (sgs f 0 L)), fO oo oc F]
abbrev fT (aL : Option Addr) (nL cL gm : Nat) (oo : Option Addr) (nF oc : Nat) (X : List (Nat × Value)) : List (Nat × Value) := (9, .slice aL nL cL) :: (10, .map (some gm)) :: (12, .slice oo nF oc) :: X
set_option maxHeartbeats 64000000 in
theorem frames_fn (f : Int) (hf : 0 ≤ f ∧ f ≤ 65535) (lc : List Int) (Ac : Option Addr) (cc : Nat) (ls : List Int) (As : Option Addr) (cs : Nat) (R : List Ro)
    (hC : SQ R 1 Ac lc.length cc (c64s lc)) (hS : SQ R 1 As ls.length cs (c64s ls)) :
    Fn Try.prog 8 #[.int .u16 f, .slice Ac lc.length cc, .slice As ls.length cs] [] R (fun v _ _ => v = .bool true) := by
  have hSt := sStream f hf lc Ac cc R hC
  refine fn_intro Try.func8 rfl Try.ntmps8 rfl (fun E => ?_)
  (repeat (first | ((first | (apply wo_v; rfl) ); (· first | (apply pv_ev; rfl) )) | apply wo_nil | apply wc_seq | apply wc_region ))
  (refine wo_call (alive) rfl (by (repeat (first | apply sub_nil )); done) (by first | exact fun _ h => h | (intro r hr; cases hr; done) | (simp; done) | exact fun _ h => List.mem_append_left _ h | (intro r hr; simp [hr]; done)) rfl ?_; rintro v L' R' ⟨rfl, rfl, rfl⟩ H' hH RR hR; simp only [List.cons_append, List.nil_append] at hH hR; subst hH; have hR := hR.symm; subst hR)
  (repeat (first | ((first | (apply wo_v; rfl) ); (· first | (apply pv_ev; rfl) | (apply g_un; first | (apply pv_not_t; rfl) ) | (apply g_build; apply pv_build; (· (repeat (first | apply Bld.nil | (apply Bld.one; rfl; rfl; (· (repeat (first | apply SetAt.here | apply SetAt.there)))) | (apply Bld.agg; rfl; rfl; (· (repeat (first | apply LayAt.nil | apply LayAt.here | apply LayAt.there)))))))) )) | apply wo_nil | apply wc_seq | apply wc_region | apply wc_skip | (apply wc_true; rfl) | (apply wc_false; rfl) ))
  (refine wo_call (iNew) rfl (by (repeat (first | apply sub_nil )); done) (by first | exact fun _ h => h | (intro r hr; cases hr; done) | (simp; done) | exact fun _ h => List.mem_append_left _ h | (intro r hr; simp [hr]; done)) rfl ?_; rintro v L' R' ⟨g, bB, bM, mp, mq, rfl, rfl, rfl⟩ H' hH RR hR; simp only [List.cons_append, List.nil_append] at hH hR; subst hH; have hR := hR.symm; subst hR)
  (repeat (first | ((first | (apply wo_v; rfl) ); (· first | (apply pv_ev; rfl) )) | apply wo_nil | apply wc_seq | apply wc_region | apply wc_skip | (apply wc_true; rfl) | (apply wc_false; rfl) ))
  (refine wo_call (hSt) rfl (by (repeat (first | apply sub_nil )); done) (by first | exact fun _ h => h | (intro r hr; cases hr; done) | (simp; done) | exact fun _ h => List.mem_append_left _ h | (intro r hr; simp [hr]; done)) rfl ?_; rintro v L' R' ⟨L, aL, cL, rfl, rfl, rfl, hW, hL, hlast⟩ H' hH RR hR; simp only [List.cons_append, List.nil_append] at hH hR; subst hH; have hR := hR.symm; subst hR)
  clear hSt hC
  (repeat (first | ((first | (apply wo_v; rfl) ); (· first | (apply pv_ev; rfl) )) | apply wo_nil | apply wc_seq | apply wc_region ))
  refine wo_mmake .i64 rfl (fun gm => ?_)
  show WO _ _ _ _ _ ⟨_, .ob gm (mob .i64 []) :: _, _⟩ _
  (repeat (first | ((first | (apply wo_v; rfl) ); (· first | (apply pv_ev; rfl) )) | apply wo_nil | apply wc_seq | apply wc_region ))
  refine wc_join0 (fun st => ∃ (i : Nat) (kl : List (Int × Value)), KV i kl ∧ st = ⟨fS g aL L.length cL gm [], [.ob gm (mob .i64 kl), pkO' aL L.length cL (prs' (sgs f 0 L)), srI g bB bM false 0 false 0 mp 0, bfN bB mq, mkI bM (.slice none 0 0) 0 0, .ob mp (m0 0), .ob mq (m0 0)], []⟩) ?_ ?_
  · refine wc_block ?_
    refine wc_loop' (fun q st => ∃ (i : Nat) (kl : List (Int × Value)), q = 20 - i ∧ i ≤ 20 ∧ KV i kl ∧ st = ⟨fS g aL L.length cL gm [(2, .slice As ls.length cs), (11, .int .i64 i)], [.ob gm (mob .i64 kl), pkO' aL L.length cL (prs' (sgs f 0 L)), srI g bB bM false 0 false 0 mp 0, bfN bB mq, mkI bM (.slice none 0 0) 0 0, .ob mp (m0 0), .ob mq (m0 0)], R⟩) ⟨0, [], rfl, by omega, KV.nil, rfl⟩ (wk_mk (by (repeat (first | apply wkf_nil | (apply wkf_cons; rfl))); done) (by (repeat (first | apply sub_nil )); done) (by first | exact fun _ h => h | (intro r hr; cases hr; done) | (simp; done) | exact fun _ h => List.mem_append_left _ h | (intro r hr; simp [hr]; done))) ?_
    rintro q st ⟨i, kl, rfl, hi, hk, rfl⟩
    by_cases h1 : i < ls.length
    · by_cases h2 : i < 20
      · obtain ⟨x, hx⟩ : ∃ x, ls[i]? = some x := ⟨_, List.getElem?_eq_getElem h1⟩
        have hr := c64s_at hx
        obtain ⟨a7, o7, rfl, hmem⟩ := hS.pos (by omega)
        rcases hk.2 (bits .and .i64 x 63) with h | ⟨c, h, hc⟩
        · have hk2 := hk.put (bits .and .i64 x 63) (0 + 1) (by omega)
          (repeat (first | ((first | (apply wo_v; rfl) ); (· first | (apply pv_ev; rfl) | (apply g_pick; first | (apply pv_pick_t; rfl; rfl) ) | (apply g_bi; first | (apply pv_len_sl; rfl) ) )) | apply wo_nil | apply wc_seq | apply wc_region | apply wc_skip | (apply wc_true; rfl) | (apply wc_false; rfl) | (apply a_dec_t; rfl; (· first | assumption | omega)) | (apply wo_run; rfl; rfl) | (apply wo_skip; rfl; rfl; rfl; rfl) | (apply wo_skip_u; rfl; rfl; rfl) | (apply a_gt; rfl; rfl; (· first | assumption | omega)) ))
          refine wc_block ?_
          (repeat (first | ((first | (apply wo_v; rfl) ); (· first | (apply pv_ev; rfl) | (apply g_load; first | (apply pv_ld; rfl; (· (repeat (first | apply sel_there))); rfl) | (apply pv_ld_ownf; rfl; (· (repeat (first | fail ))); (· assumption); rfl) | (apply pv_ld_own1; rfl; (· (repeat (first | apply sel_there))); (· assumption)) | (apply pv_ld_rof; rfl; (· (first | assumption )); (· assumption); rfl) | (apply pv_ld_ro1; rfl; (· (first | assumption )); (· assumption)) ) | (apply g_bin; first | (apply a_add; rfl; rfl; infer_instance; omega) | (apply pv_and; rfl; rfl) ) | (apply g_idx; first | (apply pv_idx; rfl; rfl; omega) ) )) | ((apply wo_v; rfl); (· first | (apply g_lk; first | (apply pv_mlk_n; rfl; rfl; (· (repeat (first | apply sel_here ))); (· assumption)) ) )) | (apply wo_mput; rfl; rfl; rfl; (· (repeat (first | apply sel_here ))); rfl) | apply wo_nil | apply wc_region ))
          exact loop_end ⟨i + 1, _, rfl, by omega, hk2, rfl⟩ (by omega) (wk_mk (by (repeat (first | apply wkf_nil | (apply wkf_cons; rfl))); done) (by (repeat (first | apply sub_nil )); done) (by first | exact fun _ h => h | (intro r hr; cases hr; done) | (simp; done) | exact fun _ h => List.mem_append_left _ h | (intro r hr; simp [hr]; done)))
        · have hk2 := hk.put (bits .and .i64 x 63) (c + 1) (by omega)
          (repeat (first | ((first | (apply wo_v; rfl) ); (· first | (apply pv_ev; rfl) | (apply g_pick; first | (apply pv_pick_t; rfl; rfl) ) | (apply g_bi; first | (apply pv_len_sl; rfl) ) )) | apply wo_nil | apply wc_seq | apply wc_region | apply wc_skip | (apply wc_true; rfl) | (apply wc_false; rfl) | (apply a_dec_t; rfl; (· first | assumption | omega)) | (apply wo_run; rfl; rfl) | (apply wo_skip; rfl; rfl; rfl; rfl) | (apply wo_skip_u; rfl; rfl; rfl) | (apply a_gt; rfl; rfl; (· first | assumption | omega)) ))
          refine wc_block ?_
          (repeat (first | ((first | (apply wo_v; rfl) ); (· first | (apply pv_ev; rfl) | (apply g_load; first | (apply pv_ld; rfl; (· (repeat (first | apply sel_there))); rfl) | (apply pv_ld_ownf; rfl; (· (repeat (first | fail ))); (· assumption); rfl) | (apply pv_ld_own1; rfl; (· (repeat (first | apply sel_there))); (· assumption)) | (apply pv_ld_rof; rfl; (· (first | assumption )); (· assumption); rfl) | (apply pv_ld_ro1; rfl; (· (first | assumption )); (· assumption)) ) | (apply g_bin; first | (apply a_add; rfl; rfl; infer_instance; omega) | (apply pv_and; rfl; rfl) ) | (apply g_idx; first | (apply pv_idx; rfl; rfl; omega) ) )) | ((apply wo_v; rfl); (· first | (apply g_lk; first | (apply pv_mlk_n; rfl; rfl; (· (repeat (first | apply sel_here ))); (· assumption)) | (apply pv_mlk_s; rfl; rfl; (· (repeat (first | apply sel_here ))); (· assumption)) ) )) | (apply wo_mput; rfl; rfl; rfl; (· (repeat (first | apply sel_here ))); rfl) | apply wo_nil | apply wc_region ))
          exact loop_end ⟨i + 1, _, rfl, by omega, hk2, rfl⟩ (by omega) (wk_mk (by (repeat (first | apply wkf_nil | (apply wkf_cons; rfl))); done) (by (repeat (first | apply sub_nil )); done) (by first | exact fun _ h => h | (intro r hr; cases hr; done) | (simp; done) | exact fun _ h => List.mem_append_left _ h | (intro r hr; simp [hr]; done)))
      · (repeat (first | ((first | (apply wo_v; rfl) ); (· first | (apply pv_ev; rfl) | (apply g_pick; first | (apply pv_pick_t; rfl; rfl) ) | (apply g_bi; first | (apply pv_len_sl; rfl) ) )) | apply wo_nil | apply wc_seq | apply wc_region | (apply wc_exit; rfl) | (apply wc_true; rfl) | (apply wc_false; rfl) | (apply a_dec_t; rfl; (· first | assumption | omega)) | (apply a_dec_f; rfl; (· first | assumption | omega)) | (apply wo_run; rfl; rfl) | (apply wo_skip; rfl; rfl; rfl; rfl) | (apply wo_skip_u; rfl; rfl; rfl) | (apply a_gt; rfl; rfl; (· first | assumption | omega)) ))
        exact cut_end ⟨i, kl, hk, rfl⟩ (wk_mk (by (repeat (first | apply wkf_nil | (apply wkf_cons; rfl))); done) (by (repeat (first | apply sub_nil )); done) (by first | exact fun _ h => h | (intro r hr; cases hr; done) | (simp; done) | exact fun _ h => List.mem_append_left _ h | (intro r hr; simp [hr]; done)))
    · (repeat (first | ((first | (apply wo_v; rfl) ); (· first | (apply pv_ev; rfl) | (apply g_pick; first | (apply pv_pick_t; rfl; rfl) | (apply pv_pick_f; rfl; rfl)) | (apply g_bi; first | (apply pv_len_sl; rfl) ) )) | apply wo_nil | apply wc_seq | apply wc_region | (apply wc_exit; rfl) | (apply wc_true; rfl) | (apply wc_false; rfl) | (apply wo_run; rfl; rfl) | (apply wo_skip; rfl; rfl; rfl; rfl) | (apply wo_skip_u; rfl; rfl; rfl) | (apply a_gt; rfl; rfl; (· first | assumption | omega)) | (apply a_gf; rfl; rfl; (· first | assumption | omega)) ))
      exact cut_end ⟨i, kl, hk, rfl⟩ (wk_mk (by (repeat (first | apply wkf_nil | (apply wkf_cons; rfl))); done) (by (repeat (first | apply sub_nil )); done) (by first | exact fun _ h => h | (intro r hr; cases hr; done) | (simp; done) | exact fun _ h => List.mem_append_left _ h | (intro r hr; simp [hr]; done)))
  rintro st ⟨i, kl, hk, rfl⟩
  have hG := hk.gok
  rw [mob_mL]
  generalize kl.length = ck
  clear hS
  obtain ⟨B, hB⟩ : ∃ B : Int, B = 1048576 + f := ⟨_, rfl⟩
  (repeat (first | ((first | (apply wo_v; rfl) ); (· first | (apply pv_ev; rfl) )) | apply wc_seq | apply wc_region ))
  refine wo_mdel rfl rfl (by (repeat (first | apply sel_here )); done) rfl ?_
  generalize mdel (stp 0 kl) 0 = gl at hG ⊢
  clear hk
  (repeat (first | ((first | (apply wo_v; rfl) ); (· first | (apply pv_ev; rfl) | (apply g_bi; first | (apply pv_len_sl; rfl) ) )) | apply wo_nil | apply wc_seq | apply wc_region ))
  refine wc_own0 104 1 ?_
  refine wc_own0 106 7 ?_
  refine wc_join0 (fun st => ∃ (F : List Fr3) (s : Ig3) (oo : Option Addr) (oc : Nat) (RR : List Ro), IgOk L (gG gl) B L.length 0 (F.map (·.1)) s ∧ FrsOk RR B L F ∧ st = ⟨fS g aL L.length cL gm [(12, .slice oo F.length oc)], fH gm gl ck aL cL oo oc F g bB bM mp mq f B L s, RR⟩) ?_ ?_
  · refine wc_block ?_
    refine wc_loop' (fun q st => ∃ (j : Nat) (F : List Fr3) (s : Ig3) (oo : Option Addr) (oc : Nat) (RR : List Ro), q = L.length - j ∧ j ≤ L.length ∧ IgOk L (gG gl) B j 0 (F.map (·.1)) s ∧ FrsOk RR B L F ∧ st = ⟨fS g aL L.length cL gm [(12, .slice oo F.length oc), (58, .slice aL L.length cL), (59, .int .i64 L.length), (60, .int .i64 j)], fH gm gl ck aL cL oo oc F g bB bM mp mq f B L s, RR⟩)
      ⟨0, [], ⟨false, 0, false, 0, false, 0, 0, 0, 0, [], 0, none, 0, [], 0⟩, none, 0, [], rfl, Nat.zero_le _, ⟨.inl ⟨rfl, rfl, rfl, rfl, rfl, rfl, rfl, rfl⟩, ⟨Int.le_refl _, Int.le_refl _⟩, WGk.nil _ _ _, Nat.le_refl _, (fun h => absurd h (by decide)), FX.nil (Nat.zero_le _), .inl ⟨rfl, rfl⟩, ⟨⟨Int.le_refl _, Int.le_refl _⟩, ⟨Int.le_refl _, Int.le_refl _⟩, ⟨Int.le_refl _, Int.le_refl _⟩⟩⟩, (fun x hx => by cases hx), rfl⟩ (wk_mk (by (repeat (first | apply wkf_nil | (apply wkf_cons; rfl))); done) (by (repeat (first | apply sub_nil | (apply sub_cons; (· (repeat (first | apply sel_here | apply sel_there)))))); done) (by first | exact fun _ h => h | (intro r hr; cases hr; done) | (simp; done) | exact fun _ h => List.mem_append_left _ h | (intro r hr; simp [hr]; done))) ?_
    rintro q st ⟨j, F, s, oo, oc, RR, rfl, hj, hI, hFr, rfl⟩
    by_cases hlt : j < L.length
    · obtain ⟨y, hy⟩ : ∃ y, L[j]? = some y := ⟨_, List.getElem?_eq_getElem hlt⟩
      have hrow := prs'_at (sgs_at f (j := 0) hy)
      rw [Nat.zero_add] at hrow
      refine wc_some (ao := aL) (n := L.length) (by (repeat (first | apply sel_here | apply sel_there)); done) (by omega) ?_
      rintro b5 o5 rfl
      have hgj := hG.at_ (j : Int)
      by_cases hg : gV gl (j : Int) = 0
      · have hgf : gG gl j = false := by unfold gG; simp [hg]
        have hP := iPutG hW hL f B hf hB g bB bM mp mq j 0 y hy hgf (by omega) (F.map (·.1)) s hI
        (repeat (first | ((first | (apply wo_v; rfl) ); (· first | (apply pv_ev; rfl) )) | apply wo_nil | apply wc_seq | apply wc_region | apply wc_skip | (apply wc_true; rfl) | (apply wc_false; rfl) | (apply a_dec_t; rfl; (· first | assumption | omega)) ))
        refine wc_block ?_
        (repeat (first | ((first | (apply wo_v; rfl) ); (· first | (apply pv_ev; rfl) | (apply g_load; first | (apply pv_lda; rfl; (· (repeat (first | apply sel_there))); (· (repeat (first | fail )))) | (apply pv_ld_owna; rfl; (· (repeat (first | apply sel_here | apply sel_there))); (· assumption)) ) | (apply g_idx; first | (apply pv_idx; rfl; rfl; omega) ) )) | apply wo_nil | apply wc_seq | apply wc_region | (apply wo_alloc; rfl; intro bx) | (apply wo_sta; rfl; rfl; rfl; rfl; (· (repeat (first | apply sel_here ))); (· (repeat (first | apply LayAt.nil | apply LayAt.here ))); rfl) ))
        refine wo_v rfl (pv_mL_at rfl rfl (by (repeat (first | apply sel_here | apply sel_there)); done) hgj) ?_
        (repeat (first | ((first | (apply wo_v; rfl) ); (· first | (apply pv_ev; rfl) | (apply g_load; first | (apply pv_lda; rfl; (· (repeat (first | apply sel_here ))); (· (repeat (first | apply Cut.here0 | apply Cut.here )))) ) )) | apply wo_nil | apply wc_seq | apply wc_region | (apply wc_true; rfl) | (apply wc_false; rfl) | (apply a_dec_t; rfl; (· first | assumption | omega)) ))
        (refine wo_call (hP) rfl (by (repeat (first | apply sub_nil | (apply sub_cons; (· (repeat (first | apply sel_here | apply sel_there)))))); done) (by first | exact fun _ h => h | (intro r hr; cases hr; done) | (simp; done) | exact fun _ h => List.mem_append_left _ h | (intro r hr; simp [hr]; done)) rfl ?_; rintro v L' R' ⟨new, s2, o2, c2, rfl, rfl, hF1, hI2⟩ H' hH RR hR; simp only [List.cons_append, List.nil_append] at hH hR; subst hH; have hR := hR.symm; subst hR)
        have hl1 := hI.fx.flen
        have hl2 := hI2.fx.flen
        rw [List.length_append, List.length_map, List.length_map] at hl2
        have hFr2 : FrsOk (R' ++ RR) B L (F ++ new) := (hFr.mono fun r hr => List.mem_append_right _ hr).app (hF1.mono fun r hr => List.mem_append_left _ hr)
        rw [← List.map_append] at hI2
        (repeat (first | ((first | (apply wo_v; rfl) ); (· first | (apply pv_ev; rfl) | (apply g_bi; first | fail ) )) | apply wo_nil | apply wc_region ))
        refine wo_app (ao := oo) (n := F.length) (m := new.length) rfl rfl (by (repeat (first | apply sel_here | apply sel_there)); done) (by (repeat (first | apply sel_here )); done) (by unfold maxLen; omega) (by omega) rfl (fun a3 c3 => ?_)
        rw [show F.length + new.length = (F ++ new).length by rw [List.length_append], show F.map frow ++ new.map frow = (F ++ new).map frow by rw [List.map_append]]
        (repeat (first | ((first | (apply wo_v; rfl) ); (· first | (apply pv_ev; rfl) | (apply g_bin; first | (apply a_add; rfl; rfl; infer_instance; omega) ) )) | apply wo_nil | apply wc_region ))
        exact loop_end ⟨j + 1, F ++ new, s2, a3, c3, R' ++ RR, rfl, by omega, hI2, hFr2, rfl⟩ (by omega) (wk_mk (by (repeat (first | apply wkf_nil | (apply wkf_cons; rfl))); done) (by (repeat (first | apply sub_nil | (apply sub_cons; (· (repeat (first | apply sel_here | apply sel_there)))))); done) (by first | exact fun _ h => h | (intro r hr; cases hr; done) | (simp; done) | exact fun _ h => List.mem_append_left _ h | (intro r hr; simp [hr]; done)))
      · have hgf : gG gl j = true := by unfold gG; simp [hg]
        have hj0 : 0 < j := by
          rcases Nat.eq_zero_or_pos j with h0 | h0
          · rw [h0, hG.zero] at hgf; cases hgf
          · exact h0
        have hI2 := hI.gone hj0 hgf
        (repeat (first | ((first | (apply wo_v; rfl) ); (· first | (apply pv_ev; rfl) )) | apply wo_nil | apply wc_seq | apply wc_region | apply wc_skip | (apply wc_true; rfl) | (apply wc_false; rfl) | (apply a_dec_t; rfl; (· first | assumption | omega)) ))
        refine wc_block ?_
        (repeat (first | ((first | (apply wo_v; rfl) ); (· first | (apply pv_ev; rfl) | (apply g_load; first | (apply pv_lda; rfl; (· (repeat (first | apply sel_there))); (· (repeat (first | fail )))) | (apply pv_ld_owna; rfl; (· (repeat (first | apply sel_here | apply sel_there))); (· assumption)) ) | (apply g_idx; first | (apply pv_idx; rfl; rfl; omega) ) )) | apply wo_nil | apply wc_seq | apply wc_region | (apply wo_alloc; rfl; intro bx) | (apply wo_sta; rfl; rfl; rfl; rfl; (· (repeat (first | apply sel_here ))); (· (repeat (first | apply LayAt.nil | apply LayAt.here ))); rfl) ))
        refine wo_v rfl (pv_mL_at rfl rfl (by (repeat (first | apply sel_here | apply sel_there)); done) hgj) ?_
        (repeat (first | ((first | (apply wo_v; rfl) ); (· first | (apply pv_ev; rfl) | (apply g_bin; first | (apply a_add; rfl; rfl; infer_instance; omega) ) )) | apply wo_nil | apply wc_region | apply wc_skip | (apply wc_true; rfl) | (apply wc_false; rfl) | (apply a_dec_t; rfl; (· first | assumption | omega)) | (apply a_dec_f; rfl; (· first | assumption | omega)) ))
        exact loop_end ⟨j + 1, F, s, oo, oc, RR, rfl, by omega, hI2, hFr, rfl⟩ (by omega) (wk_mk (by (repeat (first | apply wkf_nil | (apply wkf_cons; rfl))); done) (by (repeat (first | apply sub_nil | (apply sub_cons; (· (repeat (first | apply sel_here | apply sel_there)))))); done) (by first | exact fun _ h => h | (intro r hr; cases hr; done) | (simp; done) | exact fun _ h => List.mem_append_left _ h | (intro r hr; simp [hr]; done)))
    · obtain rfl : j = L.length := by omega
      (repeat (first | ((first | (apply wo_v; rfl) ); (· first | (apply pv_ev; rfl) )) | apply wo_nil | apply wc_seq | apply wc_region | (apply wc_exit; rfl) | (apply wc_true; rfl) | (apply wc_false; rfl) | (apply a_dec_t; rfl; (· first | assumption | omega)) | (apply a_dec_f; rfl; (· first | assumption | omega)) ))
      exact cut_end ⟨F, s, oo, oc, RR, hI, hFr, rfl⟩ (wk_mk (by (repeat (first | apply wkf_nil | (apply wkf_cons; rfl))); done) (by (repeat (first | apply sub_nil )); done) (by first | exact fun _ h => h | (intro r hr; cases hr; done) | (simp; done) | exact fun _ h => List.mem_append_left _ h | (intro r hr; simp [hr]; done)))
  rintro st ⟨F, s, oo, oc, RR, hI, hFr, rfl⟩
  (repeat (first | ((first | (apply wo_v; rfl) ); (· first | (apply pv_ev; rfl) )) | apply wo_nil | apply wc_seq | apply wc_region ))
  refine wc_join0 (fun st => ∃ (F : List Fr3) (oo : Option Addr) (oc : Nat) (RR : List Ro), F.map (·.1) = wh L (gG gl) L.length ∧ FrsOk RR B L F ∧ st = ⟨fT aL L.length cL gm oo F.length oc [], fC gm gl ck aL cL oo oc F f L, RR⟩) ?_ ?_
  · refine wc_block ?_
    refine wc_loop' (fun q st => ∃ (k : Nat) (F : List Fr3) (s : Ig3) (oo : Option Addr) (oc : Nat) (RR : List Ro), q = 10 - k ∧ k ≤ 10 ∧ (3 ≤ k → s.ws = []) ∧ IgOk L (gG gl) B L.length k (F.map (·.1)) s ∧ FrsOk RR B L F ∧ st = ⟨fS g aL L.length cL gm [(12, .slice oo F.length oc), (80, .int .i64 k)], fH gm gl ck aL cL oo oc F g bB bM mp mq f B L s, RR⟩)
      ⟨0, F, s, oo, oc, RR, rfl, Nat.zero_le _, (fun h => absurd h (by decide)), hI, hFr, rfl⟩ (wk_mk (by (repeat (first | apply wkf_nil | (apply wkf_cons; rfl))); done) (by (repeat (first | apply sub_nil )); done) (by first | exact fun _ h => h | (intro r hr; cases hr; done) | (simp; done) | exact fun _ h => List.mem_append_left _ h | (intro r hr; simp [hr]; done))) ?_
    clear hI hFr
    rintro q st ⟨k, F, s, oo, oc, RR, rfl, hk, hws, hI, hFr, rfl⟩
    by_cases hlt : k < 10
    · have hT := iTickG hW hL hlast f B hf hB g bB bM mp mq k (by omega) ((L.length : Int) + (k : Int)) (by omega) (F.map (·.1)) s hI
      (repeat (first | ((first | (apply wo_v; rfl) ); (· first | (apply pv_ev; rfl) )) | apply wo_nil | apply wc_seq | apply wc_region | apply wc_skip | (apply wc_true; rfl) | (apply wc_false; rfl) | (apply a_dec_t; rfl; (· first | assumption | omega)) ))
      refine wc_block ?_
      (repeat (first | ((first | (apply wo_v; rfl) ); (· first | (apply pv_ev; rfl) | (apply g_bin; first | (apply a_add; rfl; rfl; infer_instance; omega) ) | (apply g_bi; first | (apply pv_len_sl; rfl) ) )) | apply wo_nil | apply wc_seq | apply wc_region ))
      (refine wo_call (hT) rfl (by (repeat (first | apply sub_nil | (apply sub_cons; (· (repeat (first | apply sel_here | apply sel_there)))))); done) (by first | exact fun _ h => h | (intro r hr; cases hr; done) | (simp; done) | exact fun _ h => List.mem_append_left _ h | (intro r hr; simp [hr]; done)) rfl ?_; rintro v L' R' ⟨new, s2, o2, c2, rfl, ⟨rfl, hF1, hI2⟩, hws2⟩ H' hH RR hR; simp only [List.cons_append, List.nil_append] at hH hR; subst hH; have hR := hR.symm; subst hR)
      have hl1 := hI.fx.flen
      have hl2 := hI2.fx.flen
      rw [List.length_append, List.length_map, List.length_map] at hl2
      have hFr2 : FrsOk (R' ++ RR) B L (F ++ new) := (hFr.mono fun r hr => List.mem_append_right _ hr).app (hF1.mono fun r hr => List.mem_append_left _ hr)
      rw [← List.map_append] at hI2
      refine wo_app (ao := oo) (n := F.length) (m := new.length) rfl rfl (by (repeat (first | apply sel_here | apply sel_there)); done) (by (repeat (first | apply sel_here )); done) (by unfold maxLen; omega) (by omega) rfl (fun a3 c3 => ?_)
      rw [show F.length + new.length = (F ++ new).length by rw [List.length_append], show F.map frow ++ new.map frow = (F ++ new).map frow by rw [List.map_append]]
      (repeat (first | ((first | (apply wo_v; rfl) ); (· first | (apply pv_ev; rfl) | (apply g_bin; first | (apply a_add; rfl; rfl; infer_instance; omega) ) )) | apply wo_nil | apply wc_region ))
      exact loop_end ⟨k + 1, F ++ new, s2, a3, c3, R' ++ RR, rfl, by omega, (fun h3 => hws2 (by omega)), hI2, hFr2, rfl⟩ (by omega) (wk_mk (by (repeat (first | apply wkf_nil | (apply wkf_cons; rfl))); done) (by (repeat (first | apply sub_nil | (apply sub_cons; (· (repeat (first | apply sel_here | apply sel_there)))))); done) (by first | exact fun _ h => h | (intro r hr; cases hr; done) | (simp; done) | exact fun _ h => List.mem_append_left _ h | (intro r hr; simp [hr]; done)))
    · have h10 : F.map (·.1) = wh L (gG gl) L.length := by
        have h1 := hI.wk.idx
        rw [hws (by omega), List.map_nil] at h1
        exact (hI.fx.to hW hI.pj (Nat.le_refl _) h1.symm).end_
      (repeat (first | ((first | (apply wo_v; rfl) ); (· first | (apply pv_ev; rfl) )) | apply wo_nil | apply wc_seq | apply wc_region | (apply wc_exit; rfl) | (apply wc_true; rfl) | (apply wc_false; rfl) | (apply a_dec_t; rfl; (· first | assumption | omega)) | (apply a_dec_f; rfl; (· first | assumption | omega)) ))
      exact cut_end ⟨F, oo, oc, RR, h10, hFr, rfl⟩ (wk_mk (by (repeat (first | apply wkf_nil | (apply wkf_cons; rfl))); done) (by (repeat (first | apply sub_nil )); done) (by first | exact fun _ h => h | (intro r hr; cases hr; done) | (simp; done) | exact fun _ h => List.mem_append_left _ h | (intro r hr; simp [hr]; done)))
  clear hI hFr hf hB
  rintro st ⟨F, oo, oc, RR, hFw, hFr, rfl⟩
  have hFl : F.length ≤ L.length := by
    have h1 := wh_len L (gG gl) L.length
    rw [← hFw, List.length_map] at h1; exact h1
  (repeat (first | ((first | (apply wo_v; rfl) ); (· first | (apply pv_ev; rfl) )) | apply wo_nil | apply wc_seq | apply wc_region ))
  refine wc_block ?_
  refine wc_loop' (fun q st => ∃ (a aL' : Nat), q = L.length - a ∧ a ≤ L.length ∧ aL' = (wh L (gG gl) a).length ∧ (∀ y, L[a]? = some y → y.k = 0) ∧ st = ⟨fT aL L.length cL gm oo F.length oc [(18, .int .i64 a), (19, .int .i64 aL')], fC gm gl ck aL cL oo oc F f L, RR⟩)
    ⟨0, 0, rfl, Nat.zero_le _, rfl, fun y hy => (hW.zero y hy).2, rfl⟩ (wk_mk (by (repeat (first | apply wkf_nil | (apply wkf_cons; rfl))); done) (by (repeat (first | apply sub_nil )); done) (by first | exact fun _ h => h | (intro r hr; cases hr; done) | (simp; done) | exact fun _ h => List.mem_append_left _ h | (intro r hr; simp [hr]; done))) ?_
  rintro q st ⟨na, nn, rfl, hna, hnn, hk0, rfl⟩
  by_cases hlt : na < L.length
  · obtain ⟨x, hx⟩ : ∃ x, L[na]? = some x := ⟨_, List.getElem?_eq_getElem hlt⟩
    have hxk := hk0 x hx
    have hrx := prs'_at (sgs_at f (j := 0) hx)
    rw [Nat.zero_add] at hrx
    refine wc_some (ao := aL) (n := L.length) (by (repeat (first | apply sel_here | apply sel_there)); done) (by omega) ?_
    rintro b5 o5 rfl
    (repeat (first | ((first | (apply wo_v; rfl) ); (· first | (apply pv_ev; rfl) | (apply g_bi; first | (apply pv_len_sl; rfl) ) )) | apply wo_nil | apply wc_seq | apply wc_region | apply wc_skip | (apply wc_true; rfl) | (apply wc_false; rfl) | (apply a_dec_t; rfl; (· first | assumption | omega)) ))
    refine wc_block ?_
    (repeat (first | ((first | (apply wo_v; rfl) ); (· first | (apply pv_ev; rfl) )) | apply wo_nil | apply wc_seq | apply wc_region ))
    refine wc_join0 (fun st => ∃ (e : Nat), na < e ∧ e ≤ L.length ∧ PicR L na e x ∧ (∀ y, L[e]? = some y → y.i ≠ x.i) ∧ st = ⟨fT (some ⟨b5, o5, none⟩) L.length cL gm oo F.length oc [(18, .int .i64 na), (19, .int .i64 nn), (20, .int .i64 e), (21, .bool (okW (gG gl) na (e - na)))], fC gm gl ck (some ⟨b5, o5, none⟩) cL oo oc F f L, RR⟩) ?_ ?_
    · refine wc_block ?_
      refine wc_loop' (fun q st => ∃ (e : Nat), q = L.length - e ∧ e ≤ L.length ∧ PicR L na e x ∧ st = ⟨fT (some ⟨b5, o5, none⟩) L.length cL gm oo F.length oc [(18, .int .i64 na), (19, .int .i64 nn), (20, .int .i64 e), (21, .bool (okW (gG gl) na (e - na)))], fC gm gl ck (some ⟨b5, o5, none⟩) cL oo oc F f L, RR⟩)
        ⟨na, rfl, hna, PicR.zero hx, by rw [Nat.sub_self]⟩ (wk_mk (by (repeat (first | apply wkf_nil | (apply wkf_cons; rfl))); done) (by (repeat (first | apply sub_nil )); done) (by first | exact fun _ h => h | (intro r hr; cases hr; done) | (simp; done) | exact fun _ h => List.mem_append_left _ h | (intro r hr; simp [hr]; done))) ?_
      rintro q st ⟨e, rfl, he, hP, rfl⟩
      have hle := hP.le
      by_cases hel : e < L.length
      · obtain ⟨y, hy⟩ : ∃ y, L[e]? = some y := ⟨_, List.getElem?_eq_getElem hel⟩
        have hry := prs'_at (sgs_at f (j := 0) hy)
        rw [Nat.zero_add] at hry
        have hge := hG.at_ (e : Int)
        have hti : (sgP f e y).t = 3000 * (y.i : Int) := rfl
        have htx : (sgP f na x).t = 3000 * (x.i : Int) := rfl
        by_cases hyi : y.i = x.i
        · have hP2 := hP.more hW hxk hy hyi
          have heq : (sgP f e y).t = (sgP f na x).t := by rw [hti, htx, hyi]
          have hok : okW (gG gl) na (e + 1 - na) = (okW (gG gl) na (e - na) && !gG gl e) := by rw [show e + 1 - na = (e - na) + 1 by omega, okW_snoc, show na + (e - na) = e by omega]
          rw [heq] at hry
          cases hw : okW (gG gl) na (e - na) with
          | true =>
            rw [hw, Bool.true_and] at hok
            have hgl : gG gl e = decide (gV gl (e : Int) ≠ 0) := rfl
            by_cases hg : gV gl (e : Int) = 0
            · (repeat (first | apply wc_seq ))
              (refine wc_quiet mixed (by kernel_rfl) ?_; (repeat (first | ((first | (apply wo_v; rfl) | (apply hd_v; rfl) ); (· first | (apply pv_ev; rfl) | (apply pv_fld; rfl) | (apply g_load; first | (apply pv_ld; rfl; (· (repeat (first | apply sel_there))); rfl) | (apply pv_ld_ownf; rfl; (· (repeat (first | apply sel_here | apply sel_there))); (· assumption); rfl) ) | (apply g_pick; first | (apply pv_pick_t; rfl; rfl) ) | (apply g_bi; first | (apply pv_len_sl; rfl) ) | (apply g_idx; first | (apply pv_idx; rfl; rfl; omega) ) )) | apply Hd.nil | apply wc_seq | apply wc_region | apply wc_block | apply wc_skip | (apply wc_true; rfl) | (apply wc_false; rfl) | (apply a_dec_t; rfl; (· first | assumption | omega)) | (apply wo_run; rfl; rfl) | (apply Hd.run; rfl; rfl) | (apply Hd.skip; rfl; rfl; rfl; rfl) | (apply Hd.skipu; rfl; rfl; rfl) | (apply ah_gt; rfl; rfl; (· first | assumption | omega)) )))
              refine wo_v rfl (pv_mL_at rfl rfl (by (repeat (first | apply sel_here )); done) hge) ?_
              (repeat (first | ((first | (apply wo_v; rfl) ); (· first | (apply pv_ev; rfl) | (apply g_pick; first | (apply pv_pick_t; rfl; rfl) ) | (apply g_bin; first | (apply a_add; rfl; rfl; infer_instance; omega) ) )) | apply wo_nil | apply wc_region | (apply wo_run; rfl; rfl) ))
              have hdk : decide (gV gl (e : Int) = 0) = okW (gG gl) na (e + 1 - na) := by rw [hok, hgl]; simp [hg]
              rw [hdk]
              exact loop_end ⟨e + 1, rfl, by omega, hP2, rfl⟩ (by omega) (wk_mk (by (repeat (first | apply wkf_nil | (apply wkf_cons; rfl))); done) (by (repeat (first | apply sub_nil )); done) (by first | exact fun _ h => h | (intro r hr; cases hr; done) | (simp; done) | exact fun _ h => List.mem_append_left _ h | (intro r hr; simp [hr]; done)))
            · (repeat (first | apply wc_seq ))
              (refine wc_quiet mixed (by kernel_rfl) ?_; (repeat (first | ((first | (apply wo_v; rfl) | (apply hd_v; rfl) ); (· first | (apply pv_ev; rfl) | (apply pv_fld; rfl) | (apply g_load; first | (apply pv_ld; rfl; (· (repeat (first | apply sel_there))); rfl) | (apply pv_ld_ownf; rfl; (· (repeat (first | apply sel_here | apply sel_there))); (· assumption); rfl) ) | (apply g_pick; first | (apply pv_pick_t; rfl; rfl) ) | (apply g_bi; first | (apply pv_len_sl; rfl) ) | (apply g_idx; first | (apply pv_idx; rfl; rfl; omega) ) )) | apply Hd.nil | apply wc_seq | apply wc_region | apply wc_block | apply wc_skip | (apply wc_true; rfl) | (apply wc_false; rfl) | (apply a_dec_t; rfl; (· first | assumption | omega)) | (apply wo_run; rfl; rfl) | (apply Hd.run; rfl; rfl) | (apply Hd.skip; rfl; rfl; rfl; rfl) | (apply Hd.skipu; rfl; rfl; rfl) | (apply ah_gt; rfl; rfl; (· first | assumption | omega)) )))
              refine wo_v rfl (pv_mL_at rfl rfl (by (repeat (first | apply sel_here )); done) hge) ?_
              (repeat (first | ((first | (apply wo_v; rfl) ); (· first | (apply pv_ev; rfl) | (apply g_pick; first | (apply pv_pick_t; rfl; rfl) ) | (apply g_bin; first | (apply a_add; rfl; rfl; infer_instance; omega) ) )) | apply wo_nil | apply wc_region | (apply wo_run; rfl; rfl) ))
              have hdk : decide (gV gl (e : Int) = 0) = okW (gG gl) na (e + 1 - na) := by rw [hok, hgl]; simp [hg]
              rw [hdk]
              exact loop_end ⟨e + 1, rfl, by omega, hP2, rfl⟩ (by omega) (wk_mk (by (repeat (first | apply wkf_nil | (apply wkf_cons; rfl))); done) (by (repeat (first | apply sub_nil )); done) (by first | exact fun _ h => h | (intro r hr; cases hr; done) | (simp; done) | exact fun _ h => List.mem_append_left _ h | (intro r hr; simp [hr]; done)))
          | false =>
            rw [hw, Bool.false_and] at hok
            (repeat (first | apply wc_seq ))
            (refine wc_quiet mixed (by kernel_rfl) ?_; (repeat (first | ((first | (apply wo_v; rfl) | (apply hd_v; rfl) ); (· first | (apply pv_ev; rfl) | (apply pv_fld; rfl) | (apply g_load; first | (apply pv_ld; rfl; (· (repeat (first | apply sel_there))); rfl) | (apply pv_ld_ownf; rfl; (· (repeat (first | apply sel_here | apply sel_there))); (· assumption); rfl) ) | (apply g_pick; first | (apply pv_pick_t; rfl; rfl) | (apply pv_pick_f; rfl; rfl)) | (apply g_bin; first | (apply a_add; rfl; rfl; infer_instance; omega) ) | (apply g_bi; first | (apply pv_len_sl; rfl) ) | (apply g_idx; first | (apply pv_idx; rfl; rfl; omega) ) )) | apply wo_nil | apply Hd.nil | apply wc_seq | apply wc_region | apply wc_block | apply wc_skip | (apply wc_true; rfl) | (apply wc_false; rfl) | (apply a_dec_t; rfl; (· first | assumption | omega)) | (apply wo_run; rfl; rfl) | (apply wo_skip; rfl; rfl; rfl; rfl) | (apply Hd.run; rfl; rfl) | (apply Hd.skip; rfl; rfl; rfl; rfl) | (apply Hd.skipu; rfl; rfl; rfl) | (apply ah_gt; rfl; rfl; (· first | assumption | omega)) )))
            exact loop_end ⟨e + 1, rfl, by omega, hP2, by rw [hok]⟩ (by omega) (wk_mk (by (repeat (first | apply wkf_nil | (apply wkf_cons; rfl))); done) (by (repeat (first | apply sub_nil )); done) (by first | exact fun _ h => h | (intro r hr; cases hr; done) | (simp; done) | exact fun _ h => List.mem_append_left _ h | (intro r hr; simp [hr]; done)))
        · have hae : na < e := by
            rcases Nat.lt_or_ge na e with h1 | h1
            · exact h1
            · obtain rfl : na = e := by omega
              rw [hx] at hy
              obtain rfl := Option.some.inj hy
              exact absurd rfl hyi
          have hnt : ¬ (sgP f e y).t = (sgP f na x).t := by rw [hti, htx]; omega
          (repeat (first | apply wc_seq ))
          (refine wc_quiet mixed (by kernel_rfl) ?_; (repeat (first | ((first | (apply hd_v; rfl) ); (· first | (apply pv_ev; rfl) | (apply pv_fld; rfl) | (apply g_load; first | (apply pv_ld; rfl; (· (repeat (first | apply sel_there))); rfl) | (apply pv_ld_ownf; rfl; (· (repeat (first | apply sel_here | apply sel_there))); (· assumption); rfl) ) | (apply g_pick; first | (apply pv_pick_t; rfl; rfl) ) | (apply g_bi; first | (apply pv_len_sl; rfl) ) | (apply g_idx; first | (apply pv_idx; rfl; rfl; omega) ) )) | apply Hd.nil | (apply wc_exit; rfl) | (apply wc_true; rfl) | (apply wc_false; rfl) | (apply a_dec_t; rfl; (· first | assumption | omega)) | (apply a_dec_f; rfl; (· first | assumption | omega)) | (apply Hd.run; rfl; rfl) | (apply Hd.skip; rfl; rfl; rfl; rfl) | (apply Hd.skipu; rfl; rfl; rfl) | (apply ah_gt; rfl; rfl; (· first | assumption | omega)) )))
          exact cut_end ⟨e, hae, he, hP, fun z hz => by rw [hy] at hz; obtain rfl := Option.some.inj hz; exact hyi, rfl⟩ (wk_mk (by (repeat (first | apply wkf_nil | (apply wkf_cons; rfl))); done) (by (repeat (first | apply sub_nil )); done) (by first | exact fun _ h => h | (intro r hr; cases hr; done) | (simp; done) | exact fun _ h => List.mem_append_left _ h | (intro r hr; simp [hr]; done)))
      · obtain rfl : e = L.length := by omega
        (repeat (first | apply wc_seq ))
        (refine wc_quiet mixed (by kernel_rfl) ?_; (repeat (first | ((first | (apply hd_v; rfl) ); (· first | (apply pv_ev; rfl) | (apply g_pick; first | (apply pv_pick_t; rfl; rfl) | (apply pv_pick_f; rfl; rfl)) | (apply g_bi; first | (apply pv_len_sl; rfl) ) )) | apply Hd.nil | (apply wc_exit; rfl) | (apply wc_true; rfl) | (apply wc_false; rfl) | (apply Hd.run; rfl; rfl) | (apply Hd.skip; rfl; rfl; rfl; rfl) | (apply Hd.skipu; rfl; rfl; rfl) | (apply ah_gt; rfl; rfl; (· first | assumption | omega)) | (apply ah_gf; rfl; rfl; (· first | assumption | omega)) )))
        exact cut_end ⟨L.length, hlt, Nat.le_refl _, hP, fun z hz => by simp at hz, rfl⟩ (wk_mk (by (repeat (first | apply wkf_nil | (apply wkf_cons; rfl))); done) (by (repeat (first | apply sub_nil )); done) (by first | exact fun _ h => h | (intro r hr; cases hr; done) | (simp; done) | exact fun _ h => List.mem_append_left _ h | (intro r hr; simp [hr]; done)))
    rintro st ⟨e, hae, hel, hP, hne, rfl⟩
    obtain ⟨hwe, hke⟩ := hP.wh hW hlast hae hel hne
    cases hw : okW (gG gl) na (e - na) with
    | true =>
      rw [hw, if_pos rfl] at hwe
      have hnn2 : nn + 1 = (wh L (gG gl) e).length := by rw [hwe, List.length_append, hnn]; rfl
      obtain ⟨t, ht⟩ := wh_pre (L := L) (G := gG gl) (p := e) (q := L.length) hel
      have hFn : (F.map (·.1))[nn]? = some (List.range' na (e - na)) := by
        rw [hFw, ht, hwe, hnn, List.append_assoc, List.getElem?_append_right (Nat.le_refl _), Nat.sub_self]; rfl
      obtain ⟨⟨W, ao3, c3⟩, hf3, hf4⟩ : ∃ z, F[nn]? = some z ∧ z.1 = List.range' na (e - na) := by
        rw [List.getElem?_map] at hFn
        cases h : F[nn]? with
        | none => rw [h] at hFn; cases hFn
        | some z => rw [h] at hFn; exact ⟨z, rfl, Option.some.inj hFn⟩
      dsimp only at hf4
      have hlF := (List.getElem?_eq_some_iff.1 hf3).1
      have hrF : (F.map frow)[nn]? = some [.slice ao3 W.length c3] := by rw [List.getElem?_map, hf3]; rfl
      have hWl : W.length = e - na := by rw [hf4, List.length_range']
      have hSR := hFr (W, ao3, c3) (List.mem_of_getElem? hf3)
      dsimp only at hSR
      rw [hWl] at hrF hSR
      obtain ⟨b9, o9, rfl, hmem⟩ := hSR.pos (by omega)
      obtain ⟨m, hm⟩ : ∃ m, m = e - na := ⟨_, rfl⟩
      rw [← hm] at hrF
      have hme : ¬ ¬ (m : Int) = (e : Int) - (na : Int) := by omega
      refine wc_some (ao := oo) (n := F.length) (by (repeat (first | apply sel_here | apply sel_there)); done) (by omega) ?_
      rintro b6 o6 rfl
      (repeat (first | ((first | (apply wo_v; rfl) ); (· first | (apply pv_ev; rfl) | (apply pv_fld; rfl) | (apply g_load; first | (apply pv_ld; rfl; (· (repeat (first | apply sel_there))); rfl) | (apply pv_ld_ownf; rfl; (· (repeat (first | apply sel_here | apply sel_there))); (· assumption); rfl) ) | (apply g_pick; first | (apply pv_pick_t; rfl; rfl) | (apply pv_pick_f; rfl; rfl)) | (apply g_bin; first | (apply a_sub; rfl; rfl; infer_instance; omega) ) | (apply g_bi; first | (apply pv_len_sl; rfl) ) | (apply g_idx; first | (apply pv_idx; rfl; rfl; omega) ) )) | apply wo_nil | apply wc_seq | apply wc_region | apply wc_skip | (apply wc_true; rfl) | (apply wc_false; rfl) | (apply a_dec_t; rfl; (· first | assumption | omega)) | (apply a_dec_f; rfl; (· first | assumption | omega)) | (apply wo_run; rfl; rfl) | (apply wo_skip; rfl; rfl; rfl; rfl) | (apply wo_skip_u; rfl; rfl; rfl) | (apply a_gt; rfl; rfl; (· first | assumption | omega)) | (apply a_gf; rfl; rfl; (· first | assumption | omega)) ))
      refine wc_block ?_
      refine wc_loop' (fun q st => ∃ (k : Nat), q = m - k ∧ k ≤ m ∧ st = ⟨fT (some ⟨b5, o5, none⟩) L.length cL gm (some ⟨b6, o6, none⟩) F.length oc [(18, .int .i64 na), (19, .int .i64 nn), (20, .int .i64 e), (144, .slice (some ⟨b9, o9, none⟩) m c3), (145, .int .i64 m), (146, .int .i64 k)], fC gm gl ck (some ⟨b5, o5, none⟩) cL (some ⟨b6, o6, none⟩) oc F f L, RR⟩)
        ⟨0, rfl, Nat.zero_le _, rfl⟩ (wk_mk (by (repeat (first | apply wkf_nil | (apply wkf_cons; rfl))); done) (by (repeat (first | apply sub_nil )); done) (by first | exact fun _ h => h | (intro r hr; cases hr; done) | (simp; done) | exact fun _ h => List.mem_append_left _ h | (intro r hr; simp [hr]; done))) ?_
      rintro q st ⟨k, rfl, hk, rfl⟩
      by_cases hkm : k < m
      · obtain ⟨z, hz⟩ : ∃ z, L[na + k]? = some z := ⟨_, List.getElem?_eq_getElem (by omega)⟩
        have hrz := prs'_at (sgs_at f (j := 0) hz)
        rw [Nat.zero_add] at hrz
        have hrz : (prs' (sgs f 0 L))[((na : Int) + (k : Int)).toNat]? = some (pkR (sgP f (na + k) z).mrk (sgP f (na + k) z).kd (sgP f (na + k) z).sq (sgP f (na + k) z).t (sgP f (na + k) z).ss (sgP f (na + k) z).pl) := by
          rw [show ((na : Int) + (k : Int)).toNat = na + k by omega]; exact hrz
        have hUk : (gUs B L W)[k]? = some (gUn B L (na + k)) := by
          rw [List.getElem?_map, hf4, List.getElem?_range' (by omega)]
          simp
        have hrU := urs_at hUk
        have htx : (gUn B L (na + k)).tx = (sgP f (na + k) z).pl := by rw [gUn_at hz]; rfl
        rw [htx] at hrU
        (repeat (first | ((first | (apply wo_v; rfl) ); (· first | (apply pv_ev; rfl) )) | apply wo_nil | apply wc_seq | apply wc_region | apply wc_skip | (apply wc_true; rfl) | (apply wc_false; rfl) | (apply a_dec_t; rfl; (· first | assumption | omega)) ))
        refine wc_block ?_
        (repeat (first | ((first | (apply wo_v; rfl) ); (· first | (apply pv_ev; rfl) | (apply g_load; first | (apply pv_lda; rfl; (· (repeat (first | apply sel_there))); (· (repeat (first | fail )))) | (apply pv_ld_owna; rfl; (· (repeat (first | apply sel_there))); (· assumption)) | (apply pv_ld_roa; rfl; (· (first | assumption )); (· assumption))) | (apply g_idx; first | (apply pv_idx; rfl; rfl; omega) ) )) | apply wo_nil | apply wc_seq | apply wc_region | (apply wo_alloc; rfl; intro bx) | (apply wo_sta; rfl; rfl; rfl; rfl; (· (repeat (first | apply sel_here ))); (· (repeat (first | apply LayAt.nil | apply LayAt.here ))); rfl) ))
        (refine wc_quiet mixed (by kernel_rfl) ?_; (repeat (first | ((first | (apply wo_v; rfl) | (apply hd_v; rfl) ); (· first | (apply pv_ev; rfl) | (apply pv_fld; rfl) | (apply g_load; first | (apply pv_ld; rfl; (· (repeat (first | apply sel_here | apply sel_there))); rfl) | (apply pv_ld_ownf; rfl; (· (repeat (first | apply sel_here | apply sel_there))); (· assumption); rfl) ) | (apply g_bin; first | (apply a_add; rfl; rfl; infer_instance; omega) | (apply pv_neq_s; rfl; rfl) ) | (apply g_idx; first | (apply pv_idx; rfl; rfl; omega) ) )) | apply wo_nil | apply Hd.nil | apply wc_region | apply wc_skip | (apply wc_true; rfl) | (apply wc_false; rfl) | (apply a_dec_t; rfl; (· first | assumption | omega)) | (apply a_dec_f; rfl; (· first | assumption | omega)) | (apply a_dec_t; rfl; (· first | (simp; done) | (simp; omega))) | (apply a_dec_f; rfl; (· first | (simp; done) | (simp; omega))) )))
        exact loop_end ⟨k + 1, rfl, by omega, rfl⟩ (by omega) (wk_mk (by (repeat (first | apply wkf_nil | (apply wkf_cons; rfl))); done) (by (repeat (first | apply sub_nil | (apply sub_cons; (· (repeat (first | apply sel_here | apply sel_there)))))); done) (by first | exact fun _ h => h | (intro r hr; cases hr; done) | (simp; done) | exact fun _ h => List.mem_append_left _ h | (intro r hr; simp [hr]; done)))
      · obtain rfl : k = m := by omega
        (repeat (first | ((first | (apply wo_v; rfl) ); (· first | (apply pv_ev; rfl) | (apply g_bin; first | (apply a_add; rfl; rfl; infer_instance; omega) ) )) | apply wo_nil | apply wc_seq | apply wc_region | (apply wc_exit; rfl) | (apply wc_true; rfl) | (apply wc_false; rfl) | (apply a_dec_t; rfl; (· first | assumption | omega)) | (apply a_dec_f; rfl; (· first | assumption | omega)) ))
        exact loop_end ⟨e, nn + 1, rfl, hel, hnn2, hke, rfl⟩ (by omega) (wk_mk (by (repeat (first | apply wkf_nil | (apply wkf_cons; rfl))); done) (by (repeat (first | apply sub_nil )); done) (by first | exact fun _ h => h | (intro r hr; cases hr; done) | (simp; done) | exact fun _ h => List.mem_append_left _ h | (intro r hr; simp [hr]; done)))
    | false =>
      rw [hw] at hwe
      have hnn2 : nn = (wh L (gG gl) e).length := by rw [hwe, hnn]; rfl
      (repeat (first | ((first | (apply wo_v; rfl) ); (· first | (apply pv_ev; rfl) )) | apply wo_nil | apply wc_seq | apply wc_region | apply wc_skip | (apply wc_true; rfl) | (apply wc_false; rfl) ))
      exact loop_end ⟨e, nn, rfl, hel, hnn2, hke, rfl⟩ (by omega) (wk_mk (by (repeat (first | apply wkf_nil | (apply wkf_cons; rfl))); done) (by (repeat (first | apply sub_nil )); done) (by first | exact fun _ h => h | (intro r hr; cases hr; done) | (simp; done) | exact fun _ h => List.mem_append_left _ h | (intro r hr; simp [hr]; done)))
  · obtain rfl : na = L.length := by omega
    have hnF : nn = F.length := by rw [hnn, ← hFw, List.length_map]
    subst hnF
    (repeat (first | ((first | (apply wo_v; rfl) ); (· first | (apply pv_ev; rfl) | (apply g_bi; first | (apply pv_len_sl; rfl) ) )) | apply wo_nil | apply wc_seq | apply wc_region | (apply wc_exit; rfl) | apply wc_ret | (apply wc_true; rfl) | (apply wc_false; rfl) | (apply a_dec_t; rfl; (· first | assumption | omega)) | (apply a_dec_f; rfl; (· first | assumption | omega)) ))
    exact ret1 rfl rfl (by simp) ((by (repeat (first | apply sub_nil )); done) : List.Perm _ ([] ++ _)) (by first | exact fun _ h => h | (intro r hr; cases hr; done) | (simp; done) | exact fun _ h => List.mem_append_left _ h | (intro r hr; simp [hr]; done))
theorem c64_rowsG {A : Option Addr} {n c : Nat} {V : Nat → Nat → Value} {w : World} (h : Rws [.int .i64] w A n c V) : ∃ (l : List Int) (R : List Ro), l.length = n ∧ (∀ r ∈ R, r.sat w) ∧ SQ R 1 A n c (c64s l) := by
  obtain ⟨z, R, h4, h5, h6, _⟩ := rws_k h
  refine ⟨(List.range n).map z, R, by simp, h4, ⟨by simp, fun h0 => ?_⟩⟩
  obtain ⟨b, o, hA, hm⟩ := h6 h0
  have e : kseg .i64 z n = c64s ((List.range n).map z) := by simp [kseg, Function.comp_def]
  exact ⟨b, o, hA, by rw [← e]; exact hm⟩
theorem antiphonFrames_walk {w : World} (a : Int) (ha : 0 ≤ a ∧ a ≤ 65535) (A : Option Addr) (n c : Nat) (V : Nat → Nat → Value) (hV : Rws [.int .i64] w A n c V) (B : Option Addr) (m d : Nat) (U : Nat → Nat → Value) (hU : Rws [.int .i64] w B m d U) :
    Calls Try.prog 8 #[.int .u16 a, .slice A n c, .slice B m d] w fun e w' => e = .returned (.bool true) ∧ Below w.heap.size w w' := by
  obtain ⟨l, R, rfl, hR, hS⟩ := c64_rowsG hV
  obtain ⟨l2, R2, rfl, hR2, hS2⟩ := c64_rowsG hU
  exact walk_of (frames_fn a ha l A c l2 B d (R ++ R2) (hS.mono fun r hr => List.mem_append_left _ hr) (hS2.mono fun r hr => List.mem_append_right _ hr))
    (fun r hr => by
      rcases List.mem_append.1 hr with h | h
      · exact hR r h
      · exact hR2 r h)
end Go.Proofs.Ytlhlidmhlhodiaa
