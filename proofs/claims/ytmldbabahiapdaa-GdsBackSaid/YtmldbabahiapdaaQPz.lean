/- GdsBack, plainly. -/
import Derived.Test.YtmldbabahiapdaaQPe
import Derived.Test.YtmldbabahiapdaaQx12
namespace Go.Proofs.Ytmldbabahiapdaa.Q
open Go.RowKit Go.Proofs.YtmldbabahiapdaaW.PrintWords Go.Proofs.YtmldbabahiapdaaW.PrintLast Go.Proofs.YtmldbabahiapdaaW.PrintMore
set_option linter.unusedVariables false
set_option linter.unusedSimpArgs false

theorem alive_none : nextS [] 64 0 true 0 [] = (0, [], 0, 11) := by simp [nextS]
/-- What Read makes of the bytes so far, m variables of l. -/
def Reads (l : List S24) (m : Nat) (x : List Int) : Prop :=
  ∀ (rest : List Int) (k : Nat), Bytes rest → rest.length ≤ 100000000 - m * 131328 → m + 301 ≤ k → gds_Read.l0 k (x ++ rest) [] 0 = gds_Read.l0 (k - m) (x ++ rest) (l.take m) x.length
theorem reads_step {l : List S24} {m : Nat} {x w : List Int} {a1 : Int} (hm : m < l.length) (hm10 : m ≤ 10) (h : Reads l m x) (hx : Bytes x) (hxl : x.length ≤ m * 131328) (hb : Bytes (l.getD m z24).f1) (hw : gds_Write.f (l.getD m z24).f0 (l.getD m z24).f1 a1 = some (w, 0)) :
    Reads l (m + 1) (x ++ w) := by
  intro rest k hrest hrl hk
  have hwl := write_len hw
  have hwb := write_bytes hw hb
  have hx2 : m * 131328 ≤ 10 * 131328 := Nat.mul_le_mul_right _ hm10
  rw [List.append_assoc, h (w ++ rest) k (hwb.app hrest) (by rw [List.length_append]; omega) (by omega)]
  obtain ⟨j, hj⟩ : ∃ j, k - m = j + 1 := ⟨k - m - 1, by omega⟩
  rw [hj, show k - (m + 1) = j by omega]
  simp only [gds_Read.l0]
  have hpos : 0 < w.length := by
    have := back_next hw []
    rcases Nat.eq_zero_or_pos w.length with h0 | h0
    · have hw0 := List.eq_nil_of_length_eq_zero h0
      subst hw0
      have h2 := alive_none
      rw [List.append_nil] at this
      rw [h2] at this
      simp at this
    · exact h0
  have hd : (x ++ (w ++ rest)).drop ((x.length : Int)).toNat = w ++ rest := by rw [Int.toNat_natCast, List.drop_left]
  rw [if_pos (by rw [List.length_append, List.length_append]; omega), if_pos (by omega), if_pos (by rw [List.length_append]; omega), hd, gds_next (hwb.app hrest) (by rw [List.length_append]; omega) (by omega), back_next hw]
  simp only [Option.bind_some, if_true]
  rw [if_pos (by rw [List.length_take]; omega), wadd (m := (x ++ w).length) (by omega) (by omega) (by rw [List.length_append]; omega)]
  congr 1
  rw [List.take_succ_eq_append_getElem hm, List.getD_eq_getElem?_getD, List.getElem?_eq_getElem hm]
  rfl

theorem back_loop {l : List S24} {a1 a2 : Int} (hl : l.length ≤ 10) (hb : ∀ v ∈ l, Bytes v.f1) : ∀ (j m k : Nat) (x : List Int), m + j = l.length → 2 * j + 800 ≤ k → Reads l m x → Bytes x → x.length ≤ m * 131328 → trothlaw04_GdsBack.l0 k l a1 a2 x m = some true := by
  intro j
  induction j with
  | zero =>
    intro m k x hm hk hr hx hxl
    obtain ⟨k, rfl⟩ : ∃ q, k = q + 1 := ⟨k - 1, by omega⟩
    have hx2 : m * 131328 ≤ 10 * 131328 := Nat.mul_le_mul_right _ (by omega)
    simp only [trothlaw04_GdsBack.l0]
    rw [if_neg (by omega)]
    have h := hr [] k bytes_nil (by simp) (by omega)
    rw [List.append_nil] at h
    obtain ⟨q, hq⟩ : ∃ q, k - m = q + 1 := ⟨k - m - 1, by omega⟩
    rw [hq] at h
    simp only [gds_Read.l0] at h
    rw [if_neg (by omega), List.take_of_length_le (by omega)] at h
    unfold gds_Read.f
    rw [h, alive_eq (by omega)]
    simp only [Option.bind_some, if_true]
    rw [if_pos (by decide), same_eq (by omega) (by omega)]
    rfl
  | succ j ih =>
    intro m k x hm hk hr hx hxl
    obtain ⟨k, rfl⟩ : ∃ q, k = q + 1 + 1 := ⟨k - 2, by omega⟩
    have hj : ∀ s : Int, trothlaw04_GdsBack.j1 (k + 1) l a1 a2 x m s = some true := by
      intro s
      simp only [trothlaw04_GdsBack.j1, rd_T24, Int.toNat_natCast]
      rw [if_pos (by omega), if_pos (by omega)]
      obtain ⟨w, e, hw⟩ := write_some (l.getD m z24).f0 (l.getD m z24).f1 s
      have hwl := write_len hw
      have hx2 : m * 131328 ≤ 10 * 131328 := Nat.mul_le_mul_right _ (by omega)
      have hbv : Bytes (l.getD m z24).f1 := by
        rw [List.getD_eq_getElem?_getD, List.getElem?_eq_getElem (show m < l.length by omega)]
        exact hb _ (List.getElem_mem _)
      rw [hw]
      simp only [Option.bind_some]
      by_cases he : e = 0
      · subst he
        rw [if_pos rfl, if_pos (by omega), wadd (m := m + 1) (by omega) (by decide) rfl]
        exact ih (m + 1) k _ (by omega) (by omega) (reads_step (by omega) (by omega) hr hx hxl hbv hw) (hx.app (write_bytes hw hbv)) (by rw [List.length_append, Nat.succ_mul]; omega)
      · rcases write_ok hw with ⟨_, rfl⟩ | ⟨h0, _⟩
        · rw [if_neg he, alive_eq (by omega)]; rfl
        · exact absurd h0 he
    simp only [trothlaw04_GdsBack.l0]
    rw [if_pos (by omega), if_pos (by omega)]
    by_cases c : (((rd_T24 l (m : Int)).f1).length : Int) > 400
    · rw [if_pos c, alive_eq (by omega)]; rfl
    · rw [if_neg c, hj, hj, ite_self]

theorem back_plain (l : List S24) (a1 a2 : Int) (hb : ∀ v ∈ l, Bytes v.f1) : ∃ k, trothlaw04_GdsBack.f k l a1 a2 = some true := by
  obtain ⟨K, hK⟩ : ∃ K, 1000 ≤ K := ⟨_, Nat.le_refl _⟩
  refine ⟨K, ?_⟩
  unfold trothlaw04_GdsBack.f
  by_cases c : (l.length : Int) > 10
  · rw [if_pos c, alive_eq (by omega)]; rfl
  rw [if_neg c]
  have := back_loop (l := l) (a1 := a1) (a2 := a2) (by omega) hb l.length 0 K [] (by omega) (by omega) (fun rest k _ _ _ => by simp) bytes_nil (by simp)
  exact this
end Go.Proofs.Ytmldbabahiapdaa.Q
