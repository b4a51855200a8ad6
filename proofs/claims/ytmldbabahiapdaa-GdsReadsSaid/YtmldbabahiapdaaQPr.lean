/- GdsReads, plainly. -/
import Derived.Test.YtmldbabahiapdaaQPb
import Derived.Test.YtmldbabahiapdaaQPd
import Derived.Test.YtmldbabahiapdaaQx12
namespace Go.Proofs.Ytmldbabahiapdaa.Q
open Go.RowKit Go.Proofs.YtmldbabahiapdaaW.PrintWords Go.Proofs.YtmldbabahiapdaaW.PrintLast Go.Proofs.YtmldbabahiapdaaW.PrintMore
set_option linter.unusedVariables false
set_option linter.unusedSimpArgs false

theorem reads_l0 {b : List Int} (hb : Bytes b) (hl : b.length ≤ 100000) : ∀ (j i : Nat) (out : List S24), b.length - i ≤ j → i ≤ b.length → out.length ≤ i → ∃ R : List S24 × Int × Int, R.1.length ≤ b.length ∧ ∀ k, j + 301 ≤ k →
    gds_Read.l0 k b out i = some R ∧ trothref04_Read.l0 k b out i = some R := by
  intro j
  induction j with
  | zero =>
    intro i out hj hi ho
    refine ⟨(out, 0, 0), by simp only; omega, fun k hk => ?_⟩
    obtain ⟨k, rfl⟩ : ∃ m, k = m + 1 := ⟨k - 1, by omega⟩
    constructor
    · simp only [gds_Read.l0]; rw [if_neg (by omega)]
    · simp only [trothref04_Read.l0]; rw [if_neg (by omega)]
  | succ j ih =>
    intro i out hj hi ho
    by_cases c : i < b.length
    · have hB := hb.drop i
      have hbl : (b.drop i).length ≤ 140737488351232 := by rw [List.length_drop]; omega
      have sp := nextS_spec hB 64 0 true 0 [] (by omega) bytes_nil (by simp) (by simp)
      have step1 : ∀ k, 300 ≤ k → gds_Read.l0 (k + 1) b out i = (if (nextS (b.drop i) 64 0 true 0 []).2.2.2 = 0 then (if out.length < 4398046511104 then (gds_Read.l0 k b (out ++ [(⟨(nextS (b.drop i) 64 0 true 0 []).1, (nextS (b.drop i) 64 0 true 0 []).2.1⟩ : S24)]) (wrap64 ((i : Int) + (nextS (b.drop i) 64 0 true 0 []).2.2.1))) else (none)) else (some (([] : List (S24)), (i : Int), (nextS (b.drop i) 64 0 true 0 []).2.2.2))) := by
        intro k hk
        simp only [gds_Read.l0]
        rw [if_pos (by omega), if_pos (by omega), if_pos (by omega), Int.toNat_natCast, gds_next hB hbl (by omega), Option.bind_some]
      have step2 : ∀ k, 300 ≤ k → trothref04_Read.l0 (k + 1) b out i = (if (nextS (b.drop i) 64 0 true 0 []).2.2.2 = 0 then (if out.length < 4398046511104 then (trothref04_Read.l0 k b (out ++ [(⟨(nextS (b.drop i) 64 0 true 0 []).1, (nextS (b.drop i) 64 0 true 0 []).2.1⟩ : S24)]) (wrap64 ((i : Int) + (nextS (b.drop i) 64 0 true 0 []).2.2.1))) else (none)) else (some (([] : List (S24)), (i : Int), (nextS (b.drop i) 64 0 true 0 []).2.2.2))) := by
        intro k hk
        simp only [trothref04_Read.l0]
        rw [if_pos (by omega), if_pos (by omega), if_pos (by omega), Int.toNat_natCast, ref_next hB hbl (by omega), Option.bind_some]
      rcases sp with ⟨e0, _⟩ | ⟨e0, _, _, _, n, e1, e2, e3⟩
      · refine ⟨([], (i : Int), (nextS (b.drop i) 64 0 true 0 []).2.2.2), by simp, fun k hk => ?_⟩
        obtain ⟨k, rfl⟩ : ∃ m, k = m + 1 := ⟨k - 1, by omega⟩
        rw [step1 k (by omega), step2 k (by omega), if_neg e0]
        exact ⟨rfl, if_neg e0⟩
      · rw [List.length_drop] at e2
        simp only [↓reduceIte, List.length_nil] at e3
        obtain ⟨R, hR, hk2⟩ := ih (i + n) (out ++ [⟨(nextS (b.drop i) 64 0 true 0 []).1, (nextS (b.drop i) 64 0 true 0 []).2.1⟩]) (by omega) (by omega) (by simp; omega)
        refine ⟨R, hR, fun k hk => ?_⟩
        obtain ⟨k, rfl⟩ : ∃ m, k = m + 1 := ⟨k - 1, by omega⟩
        rw [step1 k (by omega), step2 k (by omega), if_pos e0, if_pos e0, if_pos (by omega), if_pos (by omega), e1, wadd (m := i + n) (by omega) (by omega) (by omega)]
        exact hk2 k (by omega)
    · refine ⟨(out, 0, 0), by simp only; omega, fun k hk => ?_⟩
      obtain ⟨k, rfl⟩ : ∃ m, k = m + 1 := ⟨k - 1, by omega⟩
      constructor
      · simp only [gds_Read.l0]; rw [if_neg (by omega)]
      · simp only [trothref04_Read.l0]; rw [if_neg (by omega)]

theorem reads_pure (l0 : List Int) (hb : ∀ x ∈ l0, (Lit.int .u8 x).wf = true) : ∃ k, trothlaw04_GdsReads.f k l0 = some true := by
  have hB : Bytes l0 := bytes_wf hb
  obtain ⟨K, hK⟩ : ∃ K, l0.length + 4000 ≤ K := ⟨_, Nat.le_refl _⟩
  refine ⟨K, ?_⟩
  unfold trothlaw04_GdsReads.f
  by_cases c : (l0.length : Int) > 3000
  · rw [if_pos c, alive_eq (by omega)]; rfl
  rw [if_neg c]
  obtain ⟨R, hR, h⟩ := reads_l0 hB (by omega) l0.length 0 [] (by omega) (by omega) (by simp)
  obtain ⟨g1, g2⟩ := h K (by omega)
  unfold gds_Read.f trothref04_Read.f
  have g1' : gds_Read.l0 K l0 [] 0 = some R := g1
  have g2' : trothref04_Read.l0 K l0 [] 0 = some R := g2
  rw [g1', g2', alive_eq (by omega)]
  simp only [Option.bind_some, if_true]
  rw [same_eq (by omega) (by omega)]
  simp
end Go.Proofs.Ytmldbabahiapdaa.Q
