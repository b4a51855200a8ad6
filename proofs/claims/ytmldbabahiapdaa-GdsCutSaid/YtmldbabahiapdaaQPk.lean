/- GdsCut, plainly. -/
import Derived.Test.YtmldbabahiapdaaQPe
import Derived.Test.YtmldbabahiapdaaQx10
namespace Go.Proofs.Ytmldbabahiapdaa.Q
open Go.RowKit Go.Proofs.YtmldbabahiapdaaW.PrintWords Go.Proofs.YtmldbabahiapdaaW.PrintLast Go.Proofs.YtmldbabahiapdaaW.PrintMore
set_option linter.unusedVariables false
set_option linter.unusedSimpArgs false

theorem cut_plain (a0 : Int) (l : List Int) (a1 a2 a3 : Int) (hb : Bytes l) (h3 : 0 ≤ a3 ∧ a3 < 256) : ∃ k, trothlaw04_GdsCut.f k a0 l a1 a2 a3 = some true := by
  obtain ⟨K, hK⟩ : ∃ K, 400 ≤ K := ⟨_, Nat.le_refl _⟩
  refine ⟨K + 1 + 1, ?_⟩
  unfold trothlaw04_GdsCut.f
  by_cases c : (l.length : Int) > 400
  · rw [if_pos c, alive_eq (by omega)]; rfl
  rw [if_neg c]
  obtain ⟨w, e, hw⟩ := write_some a0 l a1
  rw [hw]
  simp only [Option.bind_some]
  by_cases he : e = 0
  · subst he
    have hwl := write_len hw
    have hwb := write_bytes hw hb
    rw [if_pos rfl, copy_eq (by omega)]
    simp only [Option.bind_some]
    rw [if_pos (by omega), gds_next (hwb.app (fun x hx => by rw [List.mem_singleton.1 hx]; exact h3)) (by simp; omega) (by omega), back_next hw]
    simp only [Option.bind_some, if_true, one_eq]
    rw [same_eq (by simp) (by simp)]
    simp only [Option.bind_some, Bool.not_true]
    have hj : ∀ t : Bool, (t = false → 0 ≤ a2 ∧ a2 < w.length) → trothlaw04_GdsCut.j1 (K + 1) a2 w t = some true := by
      intro t ht
      simp only [trothlaw04_GdsCut.j1]
      cases t with
      | true => rw [if_pos rfl, alive_eq (by omega)]; rfl
      | false =>
        have h := ht rfl
        rw [if_neg (by decide), if_pos (by omega), if_pos (by omega), gds_next (hwb.take _) (by rw [List.length_take]; omega) (by omega), cut_next hw (by omega), alive_eq (by omega)]
        rfl
    simp only [trothlaw04_GdsCut.j0]
    rw [if_neg (by decide)]
    by_cases c2 : a2 < 0
    · rw [if_pos c2, hj true (fun h => by cases h)]
    · rw [if_neg c2, hj _ (fun h => by have := of_decide_eq_false h; omega)]
  · rw [if_neg he, alive_eq (by omega)]; rfl
end Go.Proofs.Ytmldbabahiapdaa.Q
