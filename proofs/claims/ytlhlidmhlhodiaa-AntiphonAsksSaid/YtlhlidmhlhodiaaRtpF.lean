/-
  The laws of rtp: Few.
-/
import Derived.Test.YtlhlidmhlhodiaaRtpK
namespace Go.Proofs.Ytlhlidmhlhodiaa
set_option linter.unusedSimpArgs false
set_option linter.unusedVariables false
set_option linter.unusedSimpArgs false
set_option linter.unusedVariables false
open Go.RowKit
attribute [local irreducible] Pv WO WC Fn
set_option maxRecDepth 100000
attribute [local irreducible] ByteArray.extract

def tblFw (d0 p0 d1 p1 : ByteArray) (x y : It) : Nat → List (List It) → Value → List (List It) → Prop := fun k Ls v Ms => match k with
  | 1 => v = .string d0 ∧ Ms = Ls
  | 4 => v = .string p0 ∧ Ms = Ls
  | 2 => v = .string d1 ∧ Ms = [[]]
  | 5 => v = .string p1 ∧ Ms = [[]]
  | 7 => v = undef ∧ Ms = [[x]]
  | _ => v = undef ∧ Ms = [[y]]
theorem tblFw_rd {d0 p0 d1 p1 : ByteArray} {x y : It} : ∀ k ∈ [1, 4], Rdr (tblFw d0 p0 d1 p1 x y) k := fun k hk L v Ms h => by
  simp only [List.mem_cons, List.not_mem_nil, or_false] at hk
  rcases hk with rfl | rfl
  · exact h.2
  · exact h.2
theorem gFlag (b : Bool) (x r : Int) (h : (if b = true then x else 0) = r) : Fn Try.prog 71 #[.bool b, .int .u8 x] [] [] (fun v L' R' => v = .int .u8 r ∧ L' = [] ∧ R' = []) := by
  subst h
  cases b with
  | true =>
    refine fn_intro Try.func71 rfl Try.ntmps71 rfl (fun E => ?_)
    (repeat (first | ((first | (apply wo_v; rfl) ); (· first | (apply pv_ev; rfl) )) | apply wo_nil | apply wc_seq | apply wc_region | apply wc_ret | (apply wc_true; rfl) ))
    exact ret1 rfl rfl ⟨rfl, rfl, rfl⟩ ((by (repeat (first | apply sub_nil )); done) : List.Perm _ ([] ++ _)) (by first | exact fun _ h => h | (intro r hr; cases hr; done) | (simp; done) | exact fun _ h => List.mem_append_left _ h | (intro r hr; simp [hr]; done))
  | false =>
    refine fn_intro Try.func71 rfl Try.ntmps71 rfl (fun E => ?_)
    (repeat (first | ((first | (apply wo_v; rfl) ); (· first | (apply pv_ev; rfl) )) | apply wo_nil | apply wc_seq | apply wc_region | apply wc_skip | apply wc_ret | (apply wc_true; rfl) | (apply wc_false; rfl) ))
    exact ret1 rfl rfl ⟨rfl, rfl, rfl⟩ ((by (repeat (first | apply sub_nil )); done) : List.Perm _ ([] ++ _)) (by first | exact fun _ h => h | (intro r hr; cases hr; done) | (simp; done) | exact fun _ h => List.mem_append_left _ h | (intro r hr; simp [hr]; done))
end Go.Proofs.Ytlhlidmhlhodiaa
