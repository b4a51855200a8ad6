/- GdsNext, plainly. -/
import Derived.Test.YtmldbabahiapdaaQPb
import Derived.Test.YtmldbabahiapdaaQPd
import Derived.Test.YtmldbabahiapdaaQx9
namespace Go.Proofs.Ytmldbabahiapdaa.Q
open Go.RowKit Go.Proofs.YtmldbabahiapdaaW.PrintWords Go.Proofs.YtmldbabahiapdaaW.PrintLast Go.Proofs.YtmldbabahiapdaaW.PrintMore
set_option linter.unusedVariables false
set_option linter.unusedSimpArgs false

theorem next_loop {x0 data : List Int} {x5 x6 id : Int}
    (hfin : ∀ k, 300 ≤ k → ((trothref04_Next.f k x0).bind fun bt230 => ((trothlaw04_alive.f k).bind fun t237 => (if t237 = true then ((trothref04_One.f id data).bind fun t238 => ((trothref04_One.f bt230.1 bt230.2.1).bind fun t241 => ((trothref04_Same.f k t238 t241).bind fun t244 => (if t244 = true then (if x5 = bt230.2.2.1 then (some (x6 == bt230.2.2.2)) else (some false)) else (some false))))) else (some false)))) = some true) :
    ∀ (j i k : Nat) (x3 : List Int), i + j = x3.length → x3.length ≤ 5000 → j + 301 ≤ k → trothlaw04_GdsNext.l0 k x0 x3 x5 x6 i id data = some true := by
  intro j
  induction j with
  | zero =>
    intro i k x3 h hl hk
    obtain ⟨k, rfl⟩ : ∃ m, k = m + 1 := ⟨k - 1, by omega⟩
    simp only [trothlaw04_GdsNext.l0]
    rw [if_neg (by omega)]
    exact hfin k (by omega)
  | succ j ih =>
    intro i k x3 h hl hk
    obtain ⟨k, rfl⟩ : ∃ m, k = m + 1 := ⟨k - 1, by omega⟩
    simp only [trothlaw04_GdsNext.l0]
    rw [if_pos (by omega), if_pos (by omega), wadd (m := i + 1) (by omega) (by decide) rfl]
    exact ih (i + 1) k _ (by simp; omega) (by simpa using hl) (by omega)

theorem next_pure (l0 : List Int) (hb : ∀ x ∈ l0, (Lit.int .u8 x).wf = true) : ∃ k, trothlaw04_GdsNext.f k l0 = some true := by
  have hB : Bytes l0 := bytes_wf hb
  obtain ⟨K, hK⟩ : ∃ K, l0.length + 400 ≤ K := ⟨_, Nat.le_refl _⟩
  refine ⟨K, ?_⟩
  unfold trothlaw04_GdsNext.f
  by_cases c : (l0.length : Int) > 5000
  · rw [if_pos c, alive_eq (by omega)]; rfl
  rw [if_neg c, copy_eq (by omega)]
  simp only [Option.bind_some]
  rw [gds_next hB (by omega) (by omega)]
  simp only [Option.bind_some]
  refine next_loop (fun k hk => ?_) l0.length 0 _ _ (by omega) (by omega) (by omega)
  rw [ref_next hB (by omega) (by omega), alive_eq (by omega)]
  simp only [Option.bind_some, one_eq, if_true]
  rw [same_eq (by simp) (by simp; omega)]
  simp
end Go.Proofs.Ytmldbabahiapdaa.Q
