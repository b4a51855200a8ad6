/- gds, plainly: what the document says of Next, by the same law. -/
import Derived.Test.YtfndcfffbpbbhaaQPa
import Derived.Test.YtfndcfffbpbbhaaQx14
namespace Go.Proofs.Ytfndcfffbpbbhaa.Q
open Go.RowKit Go.Proofs.YtfndcfffbpbbhaaW.PrintWords Go.Proofs.YtfndcfffbpbbhaaW.PrintLast Go.Proofs.YtfndcfffbpbbhaaW.PrintMore
set_option linter.unusedVariables false
set_option linter.unusedSimpArgs false
theorem ref_l0 {b : List Int} (hb : Bytes b) (hl : b.length ≤ 140737488351232) : ∀ (s i : Nat) (first : Bool) (id : Int) (data : List Int) (k : Nat), i ≤ b.length → data.length ≤ 2048 → s ≤ 64 → (first = true ↔ s = 64) → 4 * (s + 1) ≤ k →
  trothref04_Next.l0 k b i (65 - s : Int) id data = some (nextS b s i first id data) := by
 intro s
 induction s with
 | zero =>
  intro i first id data k hi hd hs hf hk
  obtain ⟨k, rfl⟩ : ∃ m, k = m + 1 := ⟨k - 1, by omega⟩
  simp only [trothref04_Next.l0, nextS]
  rw [if_neg (by omega)]
 | succ s ih =>
  intro i first id data k hi hd hs hf hk
  obtain ⟨k, rfl⟩ : ∃ m, k = m + 1 + 1 + 1 + 1 := ⟨k - 4, by omega⟩
  have h0 := hb.get i
  have h1 := hb.get (i + 1)
  have h2 := hb.get 2
  have h3 := hb.get 3
  have hi0 : i ≤ 140737488351232 := by omega
  have e1 := Lib.hid (show wrap64 ((i : Int) + 1) = ((i + 1 : Nat) : Int) from wadd hi0 (by decide) rfl)
  have e2 := Lib.hid (show wrap64 ((i : Int) + 2) = ((i + 2 : Nat) : Int) from wadd hi0 (by decide) rfl)
  have e4 := Lib.hid (show wrap64 ((i : Int) + 4) = ((i + 4 : Nat) : Int) from wadd hi0 (by decide) rfl)
  simp only [trothref04_Next.l0, nextS]
  rw [if_pos (show (65 - ((s + 1 : Nat) : Int)) ≤ 64 by omega), e2.out]
  by_cases c1 : b.length < i + 2
  ·rw [if_pos (by omega), if_pos c1]
  rw [if_neg (by omega), if_neg c1, if_pos (by omega), if_pos (by omega), e1.out, if_pos (by omega), if_pos (by omega)]
  simp only [rd, Int.toNat_natCast]
  have er := Lib.hid (show wrap64 (wrap64 (256 * wrap64 (b.getD i 0)) + wrap64 (b.getD (i + 1) 0)) = 256 * b.getD i 0 + b.getD (i + 1) 0 by
   rw [w64 (x := b.getD i 0) (by omega) (by omega), w64 (x := b.getD (i + 1) 0) (by omega) (by omega), w64 (x := 256 * b.getD i 0) (by omega) (by omega), w64 (by omega) (by omega)])
  have er2 := Lib.hid (show wrap64 (wrap64 (256 * wrap64 (b.getD 2 0)) + wrap64 (b.getD 3 0)) = 256 * b.getD 2 0 + b.getD 3 0 by
   rw [w64 (x := b.getD 2 0) (by omega) (by omega), w64 (x := b.getD 3 0) (by omega) (by omega), w64 (x := 256 * b.getD 2 0) (by omega) (by omega), w64 (by omega) (by omega)])
  simp only [er.out]
  generalize hr : 256 * b.getD i 0 + b.getD (i + 1) 0 = r at *
  have hn : (if r < 32768 then trothref04_Next.j1 (k + 1 + 1 + 1) b i (65 - ((s + 1 : Nat) : Int)) r (decide (r < 32768)) id data
    else trothref04_Next.j1 (k + 1 + 1 + 1) b i (65 - ((s + 1 : Nat) : Int)) (wrap64 (r - 32768)) (decide (r < 32768)) id data) =
    trothref04_Next.j1 (k + 1 + 1 + 1) b i (65 - ((s + 1 : Nat) : Int)) ((r % 32768).toNat : Nat) (decide (r < 32768)) id data := by
   by_cases c : r < 32768
   ·rw [if_pos c, show (((r % 32768).toNat : Nat) : Int) = r by omega]
   ·rw [if_neg c, w64 (by omega) (by omega), show (((r % 32768).toNat : Nat) : Int) = r - 32768 by omega]
  rw [hn]
  have hnb : (r % 32768).toNat < 32768 := by omega
  generalize (r % 32768).toNat = n at *
  have hH : first = true → (if first then 4 else 2 : Nat) = 4 := fun h => by rw [if_pos h]
  have hH2 : (if first then 4 else 2 : Nat) ≤ 4 := by split <;> omega
  have ein := Lib.hid (show wrap64 ((i : Int) + (n : Int)) = ((i + n : Nat) : Int) from wadd hi0 (by omega) rfl)
  simp only [trothref04_Next.j1]
  have hh : (if (65 - ((s + 1 : Nat) : Int)) = 1 then trothref04_Next.j2 (k + 1 + 1) b i (65 - ((s + 1 : Nat) : Int)) n (decide (r < 32768)) (wrap64 ((i : Int) + 4)) id data
    else trothref04_Next.j2 (k + 1 + 1) b i (65 - ((s + 1 : Nat) : Int)) n (decide (r < 32768)) (wrap64 ((i : Int) + 2)) id data) =
    trothref04_Next.j2 (k + 1 + 1) b i (65 - ((s + 1 : Nat) : Int)) n (decide (r < 32768)) ((i + (if first then 4 else 2) : Nat) : Int) id data := by
   by_cases c : s + 1 = 64
   ·rw [if_pos (by omega), e4.out, if_pos (hf.2 c)]
   ·have : first = false := by cases first with
     | false => rfl
     | true => exact absurd (hf.1 rfl) c
    rw [if_neg (by omega), e2.out, this]; rfl
  rw [hh]
  generalize (if first = true then 4 else 2 : Nat) = H at *
  simp only [trothref04_Next.j2, ein.out, rd]
  by_cases c2 : n < H
  ·rw [if_pos (by omega), if_pos c2]
  rw [if_neg (by omega), if_neg c2]
  by_cases c3 : b.length < i + n
  ·rw [if_pos (by omega), if_pos c3]
  rw [if_neg (by omega), if_neg c3]
  have h4 : (if (65 - ((s + 1 : Nat) : Int)) = 1 then (if 2 < (b.length : Int) then (if 3 < (b.length : Int) then
     trothref04_Next.j3 (k + 1) b i (65 - ((s + 1 : Nat) : Int)) n (decide (r < 32768)) ((i + H : Nat) : Int) (wrap64 (wrap64 (256 * wrap64 (b.getD (Int.toNat 2) 0)) + wrap64 (b.getD (Int.toNat 3) 0))) data else none) else none)
    else trothref04_Next.j3 (k + 1) b i (65 - ((s + 1 : Nat) : Int)) n (decide (r < 32768)) ((i + H : Nat) : Int) id data) =
    trothref04_Next.j3 (k + 1) b i (65 - ((s + 1 : Nat) : Int)) n (decide (r < 32768)) ((i + H : Nat) : Int) (if first then 256 * b.getD 2 0 + b.getD 3 0 else id) data := by
   by_cases c : s + 1 = 64
   ·have hft := hf.2 c
    rw [hH hft] at c2
    rw [if_pos (by omega), if_pos (by omega), if_pos (by omega), if_pos hft]
    rw [show Int.toNat 2 = 2 from rfl, show Int.toNat 3 = 3 from rfl, er2.out]
   ·have : first = false := by cases first with
     | false => rfl
     | true => exact absurd (hf.1 rfl) c
    rw [if_neg (by omega), this]; rfl
  rw [h4]
  simp only [trothref04_Next.j3, ein.out, Int.toNat_natCast]
  have hdl : ((b.take (i + n)).drop (i + H)).length ≤ 32768 := by rw [List.length_drop, List.length_take]; omega
  rw [if_pos (by omega), if_pos (by omega), if_pos (by omega), if_pos (by omega)]
  simp only [Option.bind_some]
  by_cases c5 : 2048 < (data ++ (b.take (i + n)).drop (i + H)).length
  ·rw [if_pos (by omega), if_pos c5]
  rw [if_neg (by omega), if_neg c5]
  by_cases c6 : r < 32768
  ·rw [if_pos (by simpa using c6), if_pos c6]
  rw [if_neg (by simpa using c6), if_neg c6, w64 (by omega) (by omega), show (65 - ((s + 1 : Nat) : Int) + 1) = 65 - (s : Int) by omega]
  exact ih (i + n) false _ _ _ (by omega) (by omega) (by omega) (by simp; omega) (by omega)
theorem ref_next {b : List Int} (hb : Bytes b) (hl : b.length ≤ 140737488351232) {k : Nat} (hk : 260 ≤ k) : trothref04_Next.f k b = some (nextS b 64 0 true 0 []) := by
 have := ref_l0 hb hl 64 0 true 0 [] k (by omega) (by simp) (by omega) (by simp) (by omega)
 exact this
end Go.Proofs.Ytfndcfffbpbbhaa.Q
