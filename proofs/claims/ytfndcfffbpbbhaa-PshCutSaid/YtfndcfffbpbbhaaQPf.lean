/- luw, plainly: names and their bytes. -/
import Derived.Test.YtfndcfffbpbbhaaQHand
import Derived.Test.YtfndcfffbpbbhaaQx3
import Derived.Test.YtfndcfffbpbbhaaQx10
import Derived.Laws.BitsAllLaws
namespace Go.Proofs.Ytfndcfffbpbbhaa.Q
open Go.RowKit Go.Proofs.YtfndcfffbpbbhaaW.PrintWords Go.Proofs.YtfndcfffbpbbhaaW.PrintLast Go.Proofs.YtfndcfffbpbbhaaW.PrintMore
set_option linter.unusedVariables false
set_option linter.unusedSimpArgs false
def rightP (a0 a2 : Int) : Bool := decide (0 ≤ a0 ∧ a0 < 6 ∧ 0 < a2)
theorem right_eq (a0 a1 a2 : Int) : luw_Right.f a0 a1 a2 = some (rightP a0 a2) := by
 unfold luw_Right.f rightP
 split
 ·split
  ·congr 1
   simp only [gt_iff_lt, decide_eq_decide]
   omega
  ·congr 1
   simp only [Bool.false_eq, decide_eq_false_iff_not]
   omega
 ·congr 1
  simp only [Bool.false_eq, decide_eq_false_iff_not]
  omega
def Byt (x : Int) : Prop := 0 ≤ x ∧ x < 256
def nine (u l q : Int) : List Int := [u % 256, (l / 16777216) % 256, (l / 65536) % 256, (l / 256) % 256, l % 256, (q / 16777216) % 256, (q / 65536) % 256, (q / 256) % 256, q % 256]
theorem or_add (i : Nat) (a b : Nat) (hb : b < 2 ^ i) : (2 ^ i * a) ||| b = 2 ^ i * a + b := (Nat.two_pow_add_eq_or_of_lt hb a).symm
theorem four_eq (a b c d : Int) (ha : Byt a) (hb : Byt b) (hc : Byt c) (hd : Byt d) : luw_four.f [a, b, c, d] = some (a * 16777216 + b * 65536 + c * 256 + d) := by
 unfold Byt at ha hb hc hd
 obtain ⟨a, rfl⟩ := Int.eq_ofNat_of_zero_le ha.1
 obtain ⟨b, rfl⟩ := Int.eq_ofNat_of_zero_le hb.1
 obtain ⟨c, rfl⟩ := Int.eq_ofNat_of_zero_le hc.1
 obtain ⟨d, rfl⟩ := Int.eq_ofNat_of_zero_le hd.1
 unfold luw_four.f
 rw [if_pos (by simp), if_pos (by simp), if_pos (by simp), if_pos (by simp)]
 have r0 : rd [(a : Int), b, c, d] 0 = a := rfl
 have r1 : rd [(a : Int), b, c, d] 1 = b := rfl
 have r2 : rd [(a : Int), b, c, d] 2 = c := rfl
 have r3 : rd [(a : Int), b, c, d] 3 = d := rfl
 rw [r0, r1, r2, r3]
 have e0 : (((a : Int) % 4294967296) * 16777216) % 4294967296 = ((2 ^ 24 * a : Nat) : Int) := by omega
 have e1 : (((b : Int) % 4294967296) * 65536) % 4294967296 = ((2 ^ 16 * b : Nat) : Int) := by omega
 have e2 : (((c : Int) % 4294967296) * 256) % 4294967296 = ((2 ^ 8 * c : Nat) : Int) := by omega
 have e3 : (d : Int) % 4294967296 = (d : Int) := by omega
 rw [e0, e1, e2, e3]
 rw [Go.u32_or_nat _ _ (by omega) (by omega), or_add 24 a _ (by omega)]
 rw [Go.u32_or_nat _ _ (by omega) (by omega), show 2 ^ 24 * a + 2 ^ 16 * b = 2 ^ 16 * (2 ^ 8 * a + b) by omega, or_add 16 _ _ (by omega)]
 rw [Go.u32_or_nat _ _ (by omega) (by omega), show 2 ^ 16 * (2 ^ 8 * a + b) + 2 ^ 8 * c = 2 ^ 8 * (2 ^ 8 * (2 ^ 8 * a + b) + c) by omega, or_add 8 _ _ (by omega)]
 congr 1
 omega
theorem write_eq (x y z : Int) : luw_Write.f x y z = some (if rightP x z = true then (nine x y z, 0) else ([], 50)) := by
 unfold luw_Write.f
 rw [right_eq, Option.bind_some]
 split <;> rfl
theorem read_of_nine (b0 b1 b2 b3 b4 b5 b6 b7 b8 : Int) (h0 : Byt b0) (h1 : Byt b1) (h2 : Byt b2) (h3 : Byt b3) (h4 : Byt b4) (h5 : Byt b5) (h6 : Byt b6) (h7 : Byt b7) (h8 : Byt b8) :
  luw_Read.f [b0, b1, b2, b3, b4, b5, b6, b7, b8] = some (if rightP b0 (b5 * 16777216 + b6 * 65536 + b7 * 256 + b8) = true then (b0, b1 * 16777216 + b2 * 65536 + b3 * 256 + b4, b5 * 16777216 + b6 * 65536 + b7 * 256 + b8, 0) else (0, 0, 0, 50)) := by
 unfold luw_Read.f
 have w0 : wrap64 (rd [b0, b1, b2, b3, b4, b5, b6, b7, b8] 0) = b0 := by
  show wrap64 b0 = b0
  unfold Byt at h0
  unfold wrap64
  omega
 have t1 : (List.take 5 [b0, b1, b2, b3, b4, b5, b6, b7, b8]).drop 1 = [b1, b2, b3, b4] := rfl
 have t2 : (List.take 9 [b0, b1, b2, b3, b4, b5, b6, b7, b8]).drop 5 = [b5, b6, b7, b8] := rfl
 rw [if_neg (by simp), if_neg (by simp), if_pos (by simp), if_pos (by simp), if_pos (by simp), t1, t2, four_eq _ _ _ _ h1 h2 h3 h4, Option.bind_some, if_pos (by simp), if_pos (by simp), four_eq _ _ _ _ h5 h6 h7 h8, Option.bind_some, w0, right_eq, Option.bind_some]
 split <;> rfl
def U32b (n : Int) : Prop := 0 ≤ n ∧ n < 4294967296
theorem read_nine (u l q : Int) (hr : rightP u q = true) (h1 : U32b l) (h2 : U32b q) : luw_Read.f (nine u l q) = some (u, l, q, 0) := by
 have hr' := hr
 simp only [rightP, decide_eq_true_eq] at hr'
 unfold U32b at h1 h2
 unfold nine
 rw [read_of_nine _ _ _ _ _ _ _ _ _ ⟨by omega, by omega⟩ ⟨by omega, by omega⟩ ⟨by omega, by omega⟩ ⟨by omega, by omega⟩ ⟨by omega, by omega⟩ ⟨by omega, by omega⟩ ⟨by omega, by omega⟩ ⟨by omega, by omega⟩ ⟨by omega, by omega⟩]
 have e1 : l / 16777216 % 256 * 16777216 + l / 65536 % 256 * 65536 + l / 256 % 256 * 256 + l % 256 = l := by omega
 have e2 : q / 16777216 % 256 * 16777216 + q / 65536 % 256 * 65536 + q / 256 % 256 * 256 + q % 256 = q := by omega
 have e0 : u % 256 = u := by omega
 rw [e0, e1, e2, if_pos hr]
theorem list_nine {l : List Int} (h : l.length = 9) : ∃ b0 b1 b2 b3 b4 b5 b6 b7 b8, l = [b0, b1, b2, b3, b4, b5, b6, b7, b8] := by
 match l, h with
 | [b0, b1, b2, b3, b4, b5, b6, b7, b8], _ => exact ⟨_, _, _, _, _, _, _, _, _, rfl⟩
theorem read_cases (l1 : List Int) (hb : ∀ x ∈ l1, Byt x) :
  (∃ e, e ≠ 0 ∧ luw_Read.f l1 = some (0, 0, 0, e)) ∨ ∃ u l q, rightP u q = true ∧ U32b l ∧ U32b q ∧ luw_Read.f l1 = some (u, l, q, 0) ∧ l1 = nine u l q := by
 by_cases c1 : (l1.length : Int) < 9
 ·left
  refine ⟨11, by decide, ?_⟩
  unfold luw_Read.f
  rw [if_pos c1]
 ·by_cases c2 : (l1.length : Int) > 9
  ·left
   refine ⟨2, by decide, ?_⟩
   unfold luw_Read.f
   rw [if_neg c1, if_pos c2]
  ·obtain ⟨b0, b1, b2, b3, b4, b5, b6, b7, b8, rfl⟩ := list_nine (l := l1) (by omega)
   simp only [List.mem_cons, List.not_mem_nil, or_false, forall_eq_or_imp, forall_eq] at hb
   obtain ⟨h0, h1, h2, h3, h4, h5, h6, h7, h8⟩ := hb
   rw [read_of_nine _ _ _ _ _ _ _ _ _ h0 h1 h2 h3 h4 h5 h6 h7 h8]
   unfold Byt at h0 h1 h2 h3 h4 h5 h6 h7 h8
   by_cases hr : rightP b0 (b5 * 16777216 + b6 * 65536 + b7 * 256 + b8) = true
   ·right
    refine ⟨_, _, _, hr, ?_, ?_, by rw [if_pos hr], ?_⟩
    ·exact ⟨by omega, by omega⟩
    ·exact ⟨by omega, by omega⟩
    ·unfold nine
     simp only [List.cons.injEq, and_true]
     refine ⟨by omega, by omega, by omega, by omega, by omega, by omega, by omega, by omega, by omega⟩
   ·left
    exact ⟨50, by decide, by rw [if_neg hr]⟩
end Go.Proofs.Ytfndcfffbpbbhaa.Q
