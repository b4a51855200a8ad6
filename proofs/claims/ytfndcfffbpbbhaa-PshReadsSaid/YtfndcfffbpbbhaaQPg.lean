/- luw, plainly: what the document says. -/
import Derived.Test.YtfndcfffbpbbhaaQPf
import Derived.Test.YtfndcfffbpbbhaaQx5
import Derived.IntWalk
import Derived.OpenShut
namespace Go.Proofs.Ytfndcfffbpbbhaa.Q
open Go.RowKit Go.Proofs.YtfndcfffbpbbhaaW.PrintWords Go.Proofs.YtfndcfffbpbbhaaW.PrintLast Go.Proofs.YtfndcfffbpbbhaaW.PrintMore
set_option linter.unusedVariables false
set_option linter.unusedSimpArgs false
theorem u64i (n : Int) (h0 : 0 ≤ n) (h1 : n ≤ 18446744073709551615) : IntKind.u64.wrap n = n := IntWalk.u64_in n ⟨h0, h1⟩
theorem W9 (n : Int) (h0 : -9 ≤ n) (h1 : n ≤ 9) : wrap64 n = n := by unfold wrap64; omega
theorem p0 (k : Nat) (x n : Int) (acc : List Int) (i : Int) (hx : 0 ≤ x ∧ x < 4294967296) (hi : i < n) (hl : acc.length < 140737488355328) (h0 : -9 ≤ i + 1) (h1 : i + 1 ≤ 9) :
  trothref01_Put.l0 (k + 1) x n acc i = trothref01_Put.l0 k (x / 256) n (acc ++ [x % 256]) (i + 1) := by
 have d : IntKind.u64.wrap (Int.tdiv x 256) = x / 256 := by
  rw [Int.tdiv_eq_ediv_of_nonneg hx.1]
  exact u64i _ (by omega) (by omega)
 have m : (Int.tmod x 256) % 256 = x % 256 := by
  rw [Int.tmod_eq_emod_of_nonneg hx.1]; omega
 simp only [trothref01_Put.l0]
 rw [if_pos hi, if_pos hl, d, m, W9 _ h0 h1]
theorem p1 (k : Nat) (x n : Int) (acc : List Int) (i : Int) (hx : x = 0) (hi : ¬ i < n) (h0 : -9 ≤ n - 1) (h1 : n - 1 ≤ 9) : trothref01_Put.l0 (k + 1) x n acc i = trothref01_Put.l1 k acc [] (n - 1) := by
 simp only [trothref01_Put.l0]
 rw [if_neg hi, if_neg (by omega), W9 _ h0 h1]
theorem q0 (k : Nat) (l out : List Int) (i : Int) (h0 : 0 ≤ i) (hi : i < (l.length : Int)) (hl : out.length < 140737488355328) (h1 : i ≤ 9) : trothref01_Put.l1 (k + 1) l out i = trothref01_Put.l1 k l (out ++ [rd l i]) (i - 1) := by
 simp only [trothref01_Put.l1]
 rw [if_pos h0, if_pos h0, if_pos hi, if_pos hl, W9 _ (by omega) (by omega)]
theorem q1 (k : Nat) (l out : List Int) (i : Int) (h0 : ¬ 0 ≤ i) : trothref01_Put.l1 (k + 1) l out i = some (out, 0) := by
 simp only [trothref01_Put.l1]
 rw [if_neg h0]
theorem put_f (k : Nat) (x n : Int) (h1 : 1 ≤ n) (h2 : n ≤ 8) : trothref01_Put.f (k + 1) x n = trothref01_Put.l0 k x n [] 0 := by
 unfold trothref01_Put.f
 rw [if_neg (by omega), decide_eq_false (by omega)]
 simp only [trothref01_Put.j0]
 rw [if_neg (by simp)]
theorem put_one (x : Int) (h : 0 ≤ x ∧ x < 256) (k : Nat) : trothref01_Put.f (k + 1 + 1 + 1 + 1 + 1) x 1 = some ([x % 256], 0) := by
 rw [put_f _ _ _ (by omega) (by omega), p0 _ x 1 [] 0 (by omega) (by omega) (by simp) (by omega) (by omega), p1 _ _ _ _ _ (by omega) (by omega) (by omega) (by omega), q0 _ _ _ _ (by omega) (by simp) (by simp) (by omega), q1 _ _ _ _ (by omega)]
 rfl
theorem put_four (x : Int) (h : 0 ≤ x ∧ x < 4294967296) (k : Nat) : trothref01_Put.f (k + 1 + 1 + 1 + 1 + 1 + 1 + 1 + 1 + 1 + 1 + 1) x 4 = some ([(x / 16777216) % 256, (x / 65536) % 256, (x / 256) % 256, x % 256], 0) := by
 rw [put_f _ _ _ (by omega) (by omega), p0 _ x 4 [] 0 (by omega) (by omega) (by simp) (by omega) (by omega), p0 _ _ _ _ _ (by omega) (by omega) (by simp) (by omega) (by omega), p0 _ _ _ _ _ (by omega) (by omega) (by simp) (by omega) (by omega), p0 _ _ _ _ _ (by omega) (by omega) (by simp) (by omega) (by omega), p1 _ _ _ _ _ (by omega) (by omega) (by omega) (by omega)]
 rw [q0 _ _ _ _ (by omega) (by simp) (by simp) (by omega), q0 _ _ _ _ (by omega) (by simp) (by simp) (by omega), q0 _ _ _ _ (by omega) (by simp) (by simp) (by omega), q0 _ _ _ _ (by omega) (by simp) (by simp) (by omega), q1 _ _ _ _ (by omega)]
 have r : ∀ a b c d : Int, ((((([] : List Int) ++ [rd ([] ++ [a] ++ [b] ++ [c] ++ [d]) (4 - 1)]) ++ [rd ([] ++ [a] ++ [b] ++ [c] ++ [d]) (4 - 1 - 1)]) ++ [rd ([] ++ [a] ++ [b] ++ [c] ++ [d]) (4 - 1 - 1 - 1)]) ++ [rd ([] ++ [a] ++ [b] ++ [c] ++ [d]) (4 - 1 - 1 - 1 - 1)]) = [d, c, b, a] := fun a b c d => rfl
 rw [r]
 congr 2
 simp only [List.cons.injEq, and_true]
 omega
theorem ref_right' (u l q : Int) (hq : 0 ≤ q) : trothref05_Right.f u l q = some (rightP u q) := by
 rw [← right_eq u l q]
 unfold luw_Right.f trothref05_Right.f
 have : (q != 0) = decide (q > 0) := by
  by_cases h : q = 0
  ·subst h; rfl
  ·rw [decide_eq_true (by omega)]; simpa using h
 rw [this]
theorem ref_lwrite (k : Nat) (u l q : Int) (h1 : U32b l) (h2 : U32b q) : trothref05_Write.f (k + 1 + 1 + 1 + 1 + 1 + 1 + 1 + 1 + 1 + 1 + 1) u l q = luw_Write.f u l q := by
 unfold U32b at h1 h2
 rw [write_eq]
 unfold trothref05_Write.f
 rw [ref_right' _ _ _ h2.1, Option.bind_some]
 by_cases hr : rightP u q = true
 ·have hr' := hr
  simp only [rightP, decide_eq_true_eq] at hr'
  rw [if_pos hr, if_pos hr, u64i u (by omega) (by omega), u64i l (by omega) (by omega), u64i q (by omega) (by omega), put_one u ⟨by omega, by omega⟩ _, put_four l h1 _, put_four q h2 _]
  simp [nine]
 ·rw [if_neg hr, if_neg hr]
end Go.Proofs.Ytfndcfffbpbbhaa.Q
