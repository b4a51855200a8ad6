/- Plain facts of luw: which names may be, digits, and what the fixed calls give. -/
import Derived.Test.YtlbajagnfmbljaaQHand
import Derived.Test.YtlbajagnfmbljaaQx3
import Derived.Test.YtlbajagnfmbljaaQx4
namespace Go.Proofs.Ytlbajagnfmbljaa.Q
open Go.RowKit Go.Proofs.YtlbajagnfmbljaaW.PrintWords Go.Proofs.YtlbajagnfmbljaaW.PrintLast Go.Proofs.YtlbajagnfmbljaaW.PrintMore
set_option linter.unusedVariables false
set_option linter.unusedSimpArgs false

def rightP (a0 a2 : Int) : Bool := decide (0 ≤ a0 ∧ a0 < 6 ∧ 0 < a2)

theorem right_eq (a0 a1 a2 : Int) : luw_Right.f a0 a1 a2 = some (rightP a0 a2) := by
  unfold luw_Right.f rightP
  split
  · split
    · congr 1
      simp only [gt_iff_lt, decide_eq_decide]
      omega
    · congr 1
      simp only [Bool.false_eq, decide_eq_false_iff_not]
      omega
  · congr 1
    simp only [Bool.false_eq, decide_eq_false_iff_not]
    omega

theorem strOfNums_append (a b : List Int) : strOfNums a ++ strOfNums b = strOfNums (a ++ b) := by
  apply ByteArray.ext
  simp [strOfNums, ByteArray.data_append]

theorem dec_len : ∀ (k n : Nat), n < 10 ^ (k + 1) → (dec n).length ≤ k + 1
  | 0, n, h => by
    rw [dec_last n (by omega)]; simp
  | k + 1, n, h => by
    by_cases g : n / 10 = 0
    · rw [dec_last n g]; simp
    · rw [dec_step n g, List.length_append]
      have := dec_len k (n / 10) (by rw [Nat.pow_succ] at h; omega)
      simp only [List.length_cons, List.length_nil]
      omega

/-- A name's text. -/
def textP (a0 a1 a2 : Int) : List Int := [97 + a0] ++ dec a1.toNat ++ [46] ++ dec a2.toNat

theorem parse_alive : luw_Parse.f (⟨#[98, 50, 48, 46, 51]⟩ : ByteArray) = some (1, 20, 3, 0) := by
  have n1 : luw_number.f ((⟨#[98, 50, 48, 46, 51]⟩ : ByteArray).extract 1 5) 46 = some (20, (⟨#[51]⟩ : ByteArray), true) := by
    rw [show (⟨#[98, 50, 48, 46, 51]⟩ : ByteArray).extract 1 5 = ⟨#[50, 48, 46, 51]⟩ from rfl]
    rfl
  have n2 : luw_number.f (⟨#[51]⟩ : ByteArray) 0 = some (3, (⟨#[]⟩ : ByteArray), true) := rfl
  unfold luw_Parse.f
  rw [if_neg (by rw [ByteArray.toList_eq]; decide), if_pos (by decide), show (⟨#[98, 50, 48, 46, 51]⟩ : ByteArray).size = 5 from rfl, n1, Option.bind_some, n2, Option.bind_some, if_pos (by decide), if_pos rfl, if_pos rfl, right_eq, show wrap64 (wrap64 (bt (⟨#[98, 50, 48, 46, 51]⟩ : ByteArray) 0) - 97) = 1 by rw [show bt (⟨#[98, 50, 48, 46, 51]⟩ : ByteArray) 0 = 98 from rfl]; unfold wrap64; decide]
  rfl

theorem write_alive : luw_Write.f 1 20 3 = some ([1, 0, 0, 0, 20, 0, 0, 0, 3], 0) := rfl

end Go.Proofs.Ytlbajagnfmbljaa.Q
