/- gds, plainly: what Next gives, by one law. -/
import Derived.Test.YtfndcfffbpbbhaaQNext
import Derived.Laws.BitsLemmas
import Derived.Lib.Hide
namespace Go.Proofs.Ytfndcfffbpbbhaa.Q
open Go.RowKit Go.Proofs.YtfndcfffbpbbhaaW.PrintWords Go.Proofs.YtfndcfffbpbbhaaW.PrintLast Go.Proofs.YtfndcfffbpbbhaaW.PrintMore
set_option linter.unusedVariables false
set_option linter.unusedSimpArgs false
theorem w64 {x : Int} (h : -9223372036854775808 ≤ x) (h' : x ≤ 9223372036854775807) : wrap64 x = x := by unfold wrap64; omega
theorem wadd {i m : Nat} {c : Int} (h : i ≤ 140737488351232) (hc : 0 ≤ c ∧ c ≤ 140737488351232) (hm : (m : Int) = i + c) : wrap64 ((i : Int) + c) = (m : Int) := by rw [hm]; exact w64 (by omega) (by omega)
theorem or_i64 {a b : Int} (ha : 0 ≤ a ∧ a < 256) (hb : 0 ≤ b ∧ b < 256) : Go.bits .or .i64 (a * 256) b = a * 256 + b := by
 obtain ⟨n, rfl⟩ := Int.eq_ofNat_of_zero_le ha.1
 obtain ⟨m, rfl⟩ := Int.eq_ofNat_of_zero_le hb.1
 unfold Go.bits
 have h1 : (BitVec.ofInt IntKind.i64.bits ((n : Int) * 256) ||| BitVec.ofInt IntKind.i64.bits (m : Int)).toNat = n * 256 + m := by
  rw [BitVec.toNat_or, BitVec.toNat_ofInt, BitVec.toNat_ofInt]
  have e1 : (((n : Int) * 256) % ((2 ^ IntKind.i64.bits : Nat) : Int)).toNat = 2 ^ 8 * n := by
   rw [show ((2 ^ IntKind.i64.bits : Nat) : Int) = 18446744073709551616 from rfl]; omega
  have e2 : ((m : Int) % ((2 ^ IntKind.i64.bits : Nat) : Int)).toNat = m := by
   rw [show ((2 ^ IntKind.i64.bits : Nat) : Int) = 18446744073709551616 from rfl]; omega
  rw [e1, e2, ← Nat.two_pow_add_eq_or_of_lt (show m < 2 ^ 8 by omega)]
  omega
 simp only [h1]
 rw [IntKind.wrap_i64]
 omega
theorem and_127 {c : Int} (h₀ : 0 ≤ c) (h₁ : c < 256) : bits .and .u8 c 127 = c % 128 := bits_mask .u8 8 (by decide) wraps_u8 7 (by decide) c h₀ (by omega)
def nextS (b : List Int) : Nat → Nat → Bool → Int → List Int → Int × List Int × Int × Int
 | 0, _, _, _, _ => (0, [], 0, 5)
 | s + 1, i, first, id, data =>
  if b.length < i + 2 then (0, [], 0, 11) else
  if ((256 * b.getD i 0 + b.getD (i + 1) 0) % 32768).toNat < (if first then 4 else 2) then (0, [], 0, 40) else
  if b.length < i + ((256 * b.getD i 0 + b.getD (i + 1) 0) % 32768).toNat then (0, [], 0, 11) else
  if 2048 < (data ++ (b.take (i + ((256 * b.getD i 0 + b.getD (i + 1) 0) % 32768).toNat)).drop (i + (if first then 4 else 2))).length then (0, [], 0, 40) else
  if 256 * b.getD i 0 + b.getD (i + 1) 0 < 32768 then
   (if first then 256 * b.getD 2 0 + b.getD 3 0 else id, data ++ (b.take (i + ((256 * b.getD i 0 + b.getD (i + 1) 0) % 32768).toNat)).drop (i + (if first then 4 else 2)), ((i + ((256 * b.getD i 0 + b.getD (i + 1) 0) % 32768).toNat : Nat) : Int), 0)
  else nextS b s (i + ((256 * b.getD i 0 + b.getD (i + 1) 0) % 32768).toNat) false (if first then 256 * b.getD 2 0 + b.getD 3 0 else id)
   (data ++ (b.take (i + ((256 * b.getD i 0 + b.getD (i + 1) 0) % 32768).toNat)).drop (i + (if first then 4 else 2)))
def Bytes (b : List Int) : Prop := ∀ x ∈ b, 0 ≤ x ∧ x < 256
theorem Bytes.get {b : List Int} (h : Bytes b) (i : Nat) : 0 ≤ b.getD i 0 ∧ b.getD i 0 < 256 := by
 rw [List.getD_eq_getElem?_getD]
 rcases Nat.lt_or_ge i b.length with hi | hi
 ·rw [List.getElem?_eq_getElem hi]; exact h _ (List.getElem_mem hi)
 ·rw [List.getElem?_eq_none hi]; decide
theorem clone_eq (d : List Int) (h : d.length ≤ 2048) : slices_Clone_byte_byte.f d = some d := by
 unfold slices_Clone_byte_byte.f
 simp only [Option.bind_some, List.length_nil, List.nil_append]
 rw [if_pos (by omega)]
theorem gds_n {hi lo : Int} (h0 : 0 ≤ hi ∧ hi < 256) (h1 : 0 ≤ lo ∧ lo < 256) : Go.bits .or .i64 (wrap64 ((wrap64 (Go.bits .and .u8 hi 127)) * 256)) (wrap64 lo) = (((256 * hi + lo) % 32768).toNat : Nat) := by
 rw [and_127 h0.1 h0.2, w64 (x := hi % 128) (by omega) (by omega), w64 (x := lo) (by omega) (by omega), w64 (by omega) (by omega), or_i64 (by omega) h1]
 omega
theorem gds_id {hi lo : Int} (h0 : 0 ≤ hi ∧ hi < 256) (h1 : 0 ≤ lo ∧ lo < 256) : Go.bits .or .i64 (wrap64 ((wrap64 hi) * 256)) (wrap64 lo) = 256 * hi + lo := by
 rw [w64 (x := hi) (by omega) (by omega), w64 (x := lo) (by omega) (by omega), w64 (by omega) (by omega), or_i64 h0 h1]
 omega
theorem gds_step {b : List Int} (hb : Bytes b) (hl : b.length ≤ 140737488351232) {s i : Nat} {first : Bool} {id : Int} {data : List Int} {k : Nat} (hi : i ≤ b.length) (hd : data.length ≤ 2048) (hs : s ≤ 63) (hf : first = true ↔ s = 63)
  (ih : ∀ i' id' data', 0 < s → i' ≤ b.length → data'.length ≤ 2048 → gds_Next.l0 k b ((i' : Nat) : Int) (63 - ((s - 1 : Nat) : Int)) 2 id' data' = some (nextS b s i' false id' data')) :
  gds_Next.l0 (k + 1 + 1) b i (63 - s : Int) (if first then 4 else 2) id data = some (nextS b (s + 1) i first id data) := by
 have h0 := hb.get i
 have h1 := hb.get (i + 1)
 have h2 := hb.get 2
 have h3 := hb.get 3
 have hi0 : i ≤ 140737488351232 := by omega
 have e1 := Lib.hid (show wrap64 ((i : Int) + 1) = ((i + 1 : Nat) : Int) from wadd hi0 (by decide) rfl)
 have el := Lib.hid (show wrap64 ((b.length : Int) - (i : Int)) = ((b.length - i : Nat) : Int) by rw [w64 (by omega) (by omega)]; omega)
 have ec := Lib.hid (show wrap64 (63 - (s : Int) + 1) = 64 - (s : Int) by rw [w64 (by omega) (by omega)]; omega)
 simp only [gds_Next.l0, nextS, el.out]
 by_cases c1 : b.length < i + 2
 ·rw [if_pos (by omega), if_pos c1]
 rw [if_neg (by omega), if_neg c1, if_pos (by omega), if_pos (by omega), e1.out, if_pos (by omega), if_pos (by omega)]
 simp only [rd, Int.toNat_natCast, gds_n h0 h1]
 generalize hr : 256 * b.getD i 0 + b.getD (i + 1) 0 = r at *
 have hnb : (r % 32768).toNat < 32768 := by omega
 generalize (r % 32768).toNat = n at *
 have hH : first = true → (if first then 4 else 2 : Nat) = 4 := fun h => by rw [if_pos h]
 have hH' : first = false → (if first then 4 else 2 : Nat) = 2 := fun h => by rw [h]; rfl
 have hH2 : (if first then 4 else 2 : Nat) ≤ 4 := by split <;> omega
 have hHe : (if first = true then (4 : Int) else 2) = ((if first = true then 4 else 2 : Nat) : Int) := by split <;> rfl
 rw [hHe]
 generalize (if first = true then 4 else 2 : Nat) = H at *
 have ein := Lib.hid (show wrap64 ((i : Int) + (n : Int)) = ((i + n : Nat) : Int) from wadd hi0 (by omega) rfl)
 have eiH := Lib.hid (show wrap64 ((i : Int) + (H : Int)) = ((i + H : Nat) : Int) from wadd hi0 (by omega) rfl)
 by_cases c2 : n < H
 ·rw [if_pos (by omega), if_pos c2]
 rw [if_neg (by omega), if_neg c2]
 by_cases c3 : b.length < i + n
 ·rw [if_pos (by omega), if_pos c3]
 rw [if_neg (by omega), if_neg c3]
 have h4 : (if 63 - (s : Int) = 0 then (if 2 < (b.length : Int) then (if 3 < (b.length : Int) then
    gds_Next.j1 (k + 1) b i (63 - (s : Int)) n H (Go.bits .or .i64 (wrap64 ((wrap64 (b.getD (Int.toNat 2) 0)) * 256)) (wrap64 (b.getD (Int.toNat 3) 0))) data else none) else none)
   else gds_Next.j1 (k + 1) b i (63 - (s : Int)) n H id data) =
   gds_Next.j1 (k + 1) b i (63 - (s : Int)) n H (if first then 256 * b.getD 2 0 + b.getD 3 0 else id) data := by
  by_cases c : s = 63
  ·have hft := hf.2 c
   rw [hH hft] at c2
   rw [if_pos (by omega), if_pos (by omega), if_pos (by omega), if_pos hft]
   rw [show Int.toNat 2 = 2 from rfl, show Int.toNat 3 = 3 from rfl, gds_id h2 h3]
  ·have : first = false := by cases first with
    | false => rfl
    | true => exact absurd (hf.1 rfl) c
   rw [if_neg (by omega), this]; rfl
 rw [h4]
 simp only [gds_Next.j1, ein.out, eiH.out, rd, Int.toNat_natCast]
 have hdl : ((b.take (i + n)).drop (i + H)).length ≤ 32768 := by rw [List.length_drop, List.length_take]; omega
 rw [if_pos (by omega), if_pos (by omega), if_pos (by omega), if_pos (by omega)]
 simp only [Option.bind_some]
 by_cases c5 : 2048 < (data ++ (b.take (i + n)).drop (i + H)).length
 ·rw [if_pos (by omega), if_pos c5]
 rw [if_neg (by omega), if_neg c5, if_pos (by omega), if_pos (by omega)]
 by_cases c6 : r < 32768
 ·rw [if_neg (by omega), if_pos c6, clone_eq _ (by omega)]; rfl
 rw [if_pos (by omega), if_neg c6, ec.out]
 by_cases c7 : s = 0
 ·subst c7
  rw [if_pos (by omega)]; rfl
 ·rw [if_neg (by omega), show (64 - (s : Int)) = 63 - ((s - 1 : Nat) : Int) by omega]
  exact ih (i + n) _ _ (by omega) (by omega) (by omega)
theorem gds_l0 {b : List Int} (hb : Bytes b) (hl : b.length ≤ 140737488351232) : ∀ (s i : Nat) (first : Bool) (id : Int) (data : List Int) (k : Nat), i ≤ b.length → data.length ≤ 2048 → s ≤ 63 → (first = true ↔ s = 63) → 2 * (s + 1) ≤ k →
  gds_Next.l0 k b i (63 - s : Int) (if first then 4 else 2) id data = some (nextS b (s + 1) i first id data) := by
 intro s
 induction s with
 | zero =>
  intro i first id data k hi hd hs hf hk
  obtain ⟨k, rfl⟩ : ∃ m, k = m + 1 + 1 := ⟨k - 2, by omega⟩
  exact gds_step hb hl hi hd hs hf (fun _ _ _ h => absurd h (by omega))
 | succ s ih =>
  intro i first id data k hi hd hs hf hk
  obtain ⟨k, rfl⟩ : ∃ m, k = m + 1 + 1 := ⟨k - 2, by omega⟩
  exact gds_step hb hl hi hd hs hf (fun i' id' data' _ hi' hd' => ih i' false id' data' k hi' hd' (by omega) (by simp; omega) (by omega))
theorem gds_next {b : List Int} (hb : Bytes b) (hl : b.length ≤ 140737488351232) {k : Nat} (hk : 128 ≤ k) : gds_Next.f k b = some (nextS b 64 0 true 0 []) := by
 have := gds_l0 hb hl 63 0 true 0 [] k (by omega) (by simp) (by omega) (by simp) (by omega)
 exact this
end Go.Proofs.Ytfndcfffbpbbhaa.Q
