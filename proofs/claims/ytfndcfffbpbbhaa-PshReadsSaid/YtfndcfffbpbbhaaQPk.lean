/- PshWrites, plainly: the package's bytes are the reference's. -/
import Derived.Test.YtfndcfffbpbbhaaQPi
import Derived.Test.YtfndcfffbpbbhaaQPc
import Derived.Test.YtfndcfffbpbbhaaQPg
import Derived.Test.YtfndcfffbpbbhaaQx7
namespace Go.Proofs.Ytfndcfffbpbbhaa.Q
open Go.RowKit Go.Proofs.YtfndcfffbpbbhaaW.PrintWords Go.Proofs.YtfndcfffbpbbhaaW.PrintLast Go.Proofs.YtfndcfffbpbbhaaW.PrintMore
set_option linter.unusedVariables false
set_option linter.unusedSimpArgs false
theorem lwrite_le {K : Nat} (hK : 11 ≤ K) (u l q : Int) (h1 : U32b l) (h2 : U32b q) : trothref05_Write.f K u l q = luw_Write.f u l q := by
 obtain ⟨k, rfl⟩ : ∃ k, K = k + 1 + 1 + 1 + 1 + 1 + 1 + 1 + 1 + 1 + 1 + 1 := ⟨K - 11, by omega⟩
 exact ref_lwrite k u l q h1 h2
theorem put_le {K : Nat} (hK : 11 ≤ K) {x : Int} (h : U32b x) : trothref01_Put.f K (IntKind.u64.wrap x) 4 = some (fourOf x, 0) := by
 obtain ⟨k, rfl⟩ : ∃ k, K = k + 1 + 1 + 1 + 1 + 1 + 1 + 1 + 1 + 1 + 1 + 1 := ⟨K - 11, by omega⟩
 unfold U32b at h
 rw [u64i x (by omega) (by omega), put_four x h k]
 rfl
theorem ref_mright {K : Nat} (hK : 2 ≤ K) (a b c d : Int) (m : Bool) (x y : Int) (hd : 0 ≤ d) : trothref06_Right.f K a b c d m x y = some (rightM a b c d m x y) := by
 obtain ⟨k, rfl⟩ : ∃ k, K = k + 1 + 1 := ⟨K - 2, by omega⟩
 unfold trothref06_Right.f
 by_cases h1 : a < 1
 ·rw [if_pos h1, trothref06_Right.j0, if_pos rfl]
  unfold rightM
  rw [if_neg (by omega), if_neg (by omega), decide_eq_false (by omega)]
 rw [if_neg h1]
 by_cases h13 : a > 13
 ·rw [decide_eq_true h13, trothref06_Right.j0, if_pos rfl]
  unfold rightM
  rw [if_neg (by omega), if_neg (by omega), decide_eq_false (by omega)]
 rw [decide_eq_false h13, trothref06_Right.j0, if_neg (by decide)]
 by_cases h12 : a < 12
 ·rw [if_pos h12, ref_right' _ _ _ hd, Option.bind_some]
  unfold rightM
  rw [if_neg (show ¬ a = 12 by omega), if_neg (show ¬ a = 13 by omega)]
  have g1 : 1 ≤ a := by omega
  cases hp : rightP b d <;> cases m <;> by_cases h9 : a = 9 <;> by_cases hx : x = 0 <;> by_cases hy : y = 0 <;> simp [h9, hx, hy, h12, g1] <;> omega
 ·rw [if_neg h12]
  simp only [trothref06_Right.j1]
  unfold rightM
  by_cases e12 : a = 12
  ·by_cases hx : x = 0 <;> by_cases hb : b = 0 <;> by_cases hc : c = 0 <;> by_cases hq : d = 0 <;> cases m <;> simp [hx, hb, hc, hq, e12]
  ·have e13 : a = 13 := by omega
   by_cases hb : b = 0 <;> by_cases hc : c = 0 <;> by_cases hq : d = 0 <;> cases m <;> by_cases hx : x = 0 <;> by_cases hy : y = 0 <;> simp [hx, hb, hc, hq, hy, e13]
theorem ref_mwrite {K : Nat} (hK : 300 ≤ K) {a b c d : Int} {m : Bool} {x y : Int} (hc : U32b c) (hd : U32b d) (hx : U32b x) (hy : U32b y) : trothref06_Write.f K a b c d m x y = some (if rightM a b c d m x y = true then (frameM a b c d m x y, 0) else ([], 30)) := by
 unfold trothref06_Write.f
 rw [ref_mright (by omega) _ _ _ _ _ _ _ hd.1, Option.bind_some]
 by_cases hr : rightM a b c d m x y = true
 ·rw [if_pos hr, if_pos hr]
  have hk := right_kind hr
  have hw : wrap64 (4864 + a) = 4864 + a := w64 (by omega) (by omega)
  have hlen := data_len a b c d m x y
  have hg := gds_small (a := a) (data := dataM a b c d m x y) (by omega) (by rw [hlen]; split <;> (try split) <;> omega)
  have j : ∀ l, (if a = 12 then fourOf x ++ fourOf y else l) = dataM a b c d m x y → trothref06_Write.j0 K l a b c d m x y = some (frameM a b c d m x y, 0) := by
   intro l hl
   obtain ⟨k, rfl⟩ : ∃ k, K = k + 1 := ⟨K - 1, by omega⟩
   rw [trothref06_Write.j0]
   by_cases h12 : a = 12
   ·rw [if_pos h12] at hl
    rw [if_pos h12, put_le (by omega) hx, Option.bind_some, put_le (by omega) hy, Option.bind_some, if_pos (by simp [fourOf]), hl, hw, ref_gwrite _ _ _ (by omega), hg]
    rfl
   ·rw [if_neg h12] at hl
    rw [if_neg h12, hl, hw, ref_gwrite _ _ _ (by omega), hg]
    rfl
  by_cases h12 : a < 12
  ·have hr' := hr
   unfold rightM at hr'
   rw [if_neg (by omega), if_neg (by omega), decide_eq_true_eq] at hr'
   have hd' : dataM a b c d m x y = nine b c d ++ [if m = true then 1 else 0] := by unfold dataM; rw [if_neg (by omega), if_neg (by omega)]
   rw [if_pos h12, lwrite_le (by omega) _ _ _ hc hd, write_eq, if_pos hr'.2.2.1, Option.bind_some]
   cases m with
   | true =>
    rw [if_pos rfl, if_pos (by simp [nine])]
    exact j _ (by rw [if_neg (by omega), hd']; rfl)
   | false =>
    rw [if_neg (by decide), if_pos (by simp [nine])]
    exact j _ (by rw [if_neg (by omega), hd']; rfl)
  ·rw [if_neg h12]
   refine j _ ?_
   unfold dataM
   by_cases e12 : a = 12
   ·rw [if_pos e12, if_pos e12]
   ·rw [if_neg e12, if_neg e12, if_pos (by omega)]
 ·rw [if_neg hr, if_neg hr]
end Go.Proofs.Ytfndcfffbpbbhaa.Q
