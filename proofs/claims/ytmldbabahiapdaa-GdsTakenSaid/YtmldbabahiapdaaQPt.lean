/- GdsTaken, plainly. -/
import Derived.Test.YtmldbabahiapdaaQPe
import Derived.Test.YtmldbabahiapdaaQTk
namespace Go.Proofs.Ytmldbabahiapdaa.Q
open Go.RowKit Go.Proofs.YtmldbabahiapdaaW.PrintWords Go.Proofs.YtmldbabahiapdaaW.PrintLast Go.Proofs.YtmldbabahiapdaaW.PrintMore
set_option linter.unusedVariables false
set_option linter.unusedSimpArgs false

theorem count_one {n : Nat} (h : n ≤ 2048) : countOf n 2048 = 1 := by
  unfold countOf
  split
  · rfl
  · rw [Nat.div_eq_iff (by omega)]; omega
theorem segs_one (l id : List Int) : segsOf l id 2048 1 1 = segOf l id 2048 1 0 := by simp [segsOf]
theorem seg_one_len (l : List Int) (x y : Int) : (segOf l [x, y] 2048 1 0).length = l.length + 4 := by
  obtain ⟨n, hn, hs⟩ := seg_form l x y 2048 1 0
  rw [hs]
  simp [pieceOf]
theorem write_one {id : Int} {data w : List Int} {e : Int} (e1 : 0 ≤ id ∧ id ≤ 65535) (e3 : data.length ≤ 2048) (hw : gds_Write.f id data 2048 = some (w, e)) : e = 0 ∧ w.length = data.length + 4 := by
  unfold gds_Write.f at hw
  rw [if_neg (by omega), if_neg (by omega), if_neg (by omega)] at hw
  injection hw with hw
  injection hw with h1 h2
  refine ⟨h2.symm, ?_⟩
  have hc : (2048 : Int).toNat = 2048 := rfl
  rw [hc, count_one e3, segs_one] at h1
  rw [← h1, seg_one_len]
theorem taken_pure (l0 : List Int) (hb : ∀ x ∈ l0, (Lit.int .u8 x).wf = true) : ∃ k, trothlaw04_GdsTaken.f k l0 = some true := by
  have hB : Bytes l0 := bytes_wf hb
  obtain ⟨K, hK⟩ : ∃ K, 400 ≤ K := ⟨_, Nat.le_refl _⟩
  refine ⟨K, ?_⟩
  unfold trothlaw04_GdsTaken.f
  by_cases c : (l0.length : Int) > 5000
  · rw [if_pos c, alive_eq (by omega)]; rfl
  rw [if_neg c, gds_next hB (by omega) (by omega)]
  have sp := nextS_spec hB 64 0 true 0 [] (by omega) bytes_nil (by simp) (by simp)
  simp only [Option.bind_some]
  generalize nextS l0 64 0 true 0 [] = r at sp
  obtain ⟨id, data, n, e⟩ := r
  simp only at sp ⊢
  rcases sp with ⟨e0, e1, e2, e3⟩ | ⟨e0, e1, e2, e3, m, e4, e5, e6⟩
  · rw [if_neg e0, alive_eq (by omega)]
    subst e1 e2 e3
    rfl
  · subst e0 e4
    simp only [↓reduceIte, List.length_nil] at e6
    obtain ⟨w, e, hw⟩ := write_some id data 2048
    have hwl := write_len hw
    have he := write_one e1 e3 hw
    obtain ⟨rfl, hl2⟩ := he
    have hwb := write_bytes hw e2
    have hbn := back_next hw []
    rw [List.append_nil] at hbn
    rw [if_pos rfl, hw]
    simp only [Option.bind_some]
    rw [gds_next hwb (by omega) (by omega), hbn, alive_eq (by omega)]
    rw [Option.bind_some, Option.bind_some, if_pos rfl]
    rw [w64 (by omega) (by omega), if_pos (by omega), if_pos (by omega), if_pos rfl, if_pos rfl, if_pos trivial, one_eq, Option.bind_some, Option.bind_some, same_eq (by simp) (by simp; omega), Option.bind_some, if_pos rfl, decide_eq_true (by omega)]
end Go.Proofs.Ytmldbabahiapdaa.Q
