/- gds, plainly: what the document says of Write. -/
import Derived.Test.YtfndcfffbpbbhaaQPa
import Derived.Test.YtfndcfffbpbbhaaQWrite
import Derived.Test.YtfndcfffbpbbhaaQx6
namespace Go.Proofs.Ytfndcfffbpbbhaa.Q
open Go.RowKit Go.Proofs.YtfndcfffbpbbhaaW.PrintWords Go.Proofs.YtfndcfffbpbbhaaW.PrintLast Go.Proofs.YtfndcfffbpbbhaaW.PrintMore
set_option linter.unusedVariables false
set_option linter.unusedSimpArgs false
theorem put2 {x : Int} (h0 : 0 ≤ x) (h1 : x < 65536) {k : Nat} (hk : 10 ≤ k) : trothref01_Put.f k x 2 = some ([x / 256, x % 256], 0) := by
 obtain ⟨k, rfl⟩ : ∃ m, k = m + 10 := ⟨k - 10, by omega⟩
 have t1 : Int.tdiv x 256 = x / 256 := Int.tdiv_eq_ediv_of_nonneg h0
 have t2 : Int.tmod x 256 = x % 256 := Int.tmod_eq_emod_of_nonneg h0
 have t3 : Int.tdiv (x / 256) 256 = 0 := by rw [Int.tdiv_eq_ediv_of_nonneg (by omega)]; omega
 have t4 : Int.tmod (x / 256) 256 = x / 256 := by rw [Int.tmod_eq_emod_of_nonneg (by omega)]; omega
 have u1 : IntKind.u64.wrap (x / 256) = x / 256 := by rw [IntKind.wrap_u64]; omega
 have u0 : IntKind.u64.wrap 0 = 0 := by decide
 have w1 : wrap64 (0 + 1) = 1 := w64 (by decide) (by decide)
 have w2 : wrap64 (1 + 1) = 2 := w64 (by decide) (by decide)
 have w3 : wrap64 (2 - 1) = 1 := w64 (by decide) (by decide)
 have w4 : wrap64 (1 - 1) = 0 := w64 (by decide) (by decide)
 have w5 : wrap64 (0 - 1) = -1 := w64 (by decide) (by decide)
 unfold trothref01_Put.f
 rw [if_neg (by decide), show decide ((2 : Int) > 8) = false from rfl]
 have e0 : trothref01_Put.j0 (k + 10) x 2 false = trothref01_Put.l0 (k + 9) x 2 [] 0 := by simp only [trothref01_Put.j0]; rfl
 have e1 : trothref01_Put.l0 (k + 9) x 2 [] 0 = trothref01_Put.l0 (k + 8) (x / 256) 2 [x % 256] 1 := by
  simp only [trothref01_Put.l0, t1, t2, u1, w1]; rw [if_pos (by decide), if_pos (by decide), show x % 256 % 256 = x % 256 by omega]; rfl
 have e2 : trothref01_Put.l0 (k + 8) (x / 256) 2 [x % 256] 1 = trothref01_Put.l0 (k + 7) 0 2 [x % 256, x / 256] 2 := by
  simp only [trothref01_Put.l0, t3, t4, u0, w2]; rw [if_pos (by decide), if_pos (by simp), show x / 256 % 256 = x / 256 by omega]; rfl
 have e3 : trothref01_Put.l0 (k + 7) 0 2 [x % 256, x / 256] 2 = trothref01_Put.l1 (k + 6) [x % 256, x / 256] [] 1 := by
  simp only [trothref01_Put.l0, w3]; rw [if_neg (by decide), if_neg (by decide)]
 have e4 : trothref01_Put.l1 (k + 6) [x % 256, x / 256] [] 1 = trothref01_Put.l1 (k + 5) [x % 256, x / 256] [x / 256] 0 := by
  simp only [trothref01_Put.l1, w4]; rw [if_pos (by decide), if_pos (by decide), if_pos (by simp), if_pos (by simp)]; rfl
 have e5 : trothref01_Put.l1 (k + 5) [x % 256, x / 256] [x / 256] 0 = trothref01_Put.l1 (k + 4) [x % 256, x / 256] [x / 256, x % 256] (-1) := by
  simp only [trothref01_Put.l1, w5]; rw [if_pos (by decide), if_pos (by decide), if_pos (by simp), if_pos (by simp)]; rfl
 rw [e0, e1, e2, e3, e4, e5]
 simp only [trothref01_Put.l1]
 rw [if_neg (by decide)]
theorem length_eq {n : Int} {last : Bool} (h0 : 0 ≤ n) (h1 : n < 32768) {k : Nat} (hk : 10 ≤ k) :
  trothref04_length.f k n last = some [(n + if last = true then 0 else 32768) / 256, (n + if last = true then 0 else 32768) % 256] := by
 unfold trothref04_length.f
 cases last with
 | true =>
  rw [if_pos rfl, show IntKind.u64.wrap n = n by rw [IntKind.wrap_u64]; omega, put2 h0 (by omega) hk]
  simp
 | false =>
  rw [if_neg (by decide), w64 (by omega) (by omega), show IntKind.u64.wrap (n + 32768) = n + 32768 by rw [IntKind.wrap_u64]; omega, put2 (by omega) (by omega) hk]
  simp
theorem pieceOf_cut {l : List Int} {s N i : Nat} (hgo : ∀ k, k + 1 < N → k * s + s < l.length) (hst : l.length ≤ (N - 1) * s + s) (hi : i < N) :
  (l.take (min ((i + 1) * s) l.length)).drop (i * s) = pieceOf l s N i := by
 unfold pieceOf
 by_cases h : i + 1 < N
 ·have := hgo i h
  rw [if_pos h, Nat.succ_mul, Nat.min_eq_left (by omega), List.drop_take]
  congr 1
  omega
 ·obtain rfl : i = N - 1 := by omega
  rw [if_neg h, Nat.succ_mul, Nat.min_eq_right (by omega), List.take_length]
theorem refw_l0 {l : List Int} {s N : Nat} {a0 : Int} (hs : 0 < s) (hs2 : s ≤ 2048) (hN : N ≤ 64) (hl : l.length ≤ 2048) (ha : 0 ≤ a0 ∧ a0 ≤ 65535)
  (hgo : ∀ k, k + 1 < N → k * s + s < l.length) (hst : l.length ≤ (N - 1) * s + s) : ∀ (j i : Nat) (k : Nat), i + j = N → 2 * j + 20 ≤ k →
  trothref04_Write.l0 k s N (segsOf l [a0 / 256, a0 % 256] s N i) [a0 / 256, a0 % 256] i a0 l = some (segsOf l [a0 / 256, a0 % 256] s N N, 0) := by
 intro j
 induction j with
 | zero =>
  intro i k hij hk
  obtain ⟨k, rfl⟩ : ∃ m, k = m + 1 := ⟨k - 1, by omega⟩
  obtain rfl : i = N := by omega
  simp only [trothref04_Write.l0]
  rw [if_neg (by omega)]
 | succ j ih =>
  intro i k hij hk
  obtain ⟨k, rfl⟩ : ∃ m, k = m + 1 + 1 := ⟨k - 2, by omega⟩
  have hm : (i + 1) * s ≤ 64 * 2048 := Nat.mul_le_mul (by omega) hs2
  have hm' : i * s ≤ (i + 1) * s := Nat.mul_le_mul_right _ (by omega)
  have e1 := Lib.hid (show wrap64 ((i : Int) + 1) = ((i + 1 : Nat) : Int) from wadd (by omega) (by decide) rfl)
  have e2 := Lib.hid (show wrap64 (((i + 1 : Nat) : Int) * (s : Int)) = (((i + 1) * s : Nat) : Int) by rw [← Int.natCast_mul]; exact w64 (by omega) (by omega))
  have e3 := Lib.hid (show wrap64 ((i : Int) * (s : Int)) = ((i * s : Nat) : Int) by rw [← Int.natCast_mul]; exact w64 (by omega) (by omega))
  simp only [trothref04_Write.l0, e1.out, e2.out]
  rw [if_pos (by omega)]
  have h1 : (if ((((i + 1) * s : Nat) : Int) > (l.length : Int)) then trothref04_Write.j4 (k + 1) s N (segsOf l [a0 / 256, a0 % 256] s N i) [a0 / 256, a0 % 256] i (l.length : Int) a0 l
    else trothref04_Write.j4 (k + 1) s N (segsOf l [a0 / 256, a0 % 256] s N i) [a0 / 256, a0 % 256] i (((i + 1) * s : Nat) : Int) a0 l) =
    trothref04_Write.j4 (k + 1) s N (segsOf l [a0 / 256, a0 % 256] s N i) [a0 / 256, a0 % 256] i ((min ((i + 1) * s) l.length : Nat) : Int) a0 l := by
   by_cases c : (i + 1) * s > l.length
   ·rw [if_pos (by omega), Nat.min_eq_right (by omega)]
   ·rw [if_neg (by omega), Nat.min_eq_left (by omega)]
  rw [h1]
  simp only [trothref04_Write.j4, e1.out, e3.out, Int.toNat_natCast]
  have hcut := pieceOf_cut hgo hst (show i < N by omega)
  have hle : i * s ≤ min ((i + 1) * s) l.length := by
   by_cases h : i + 1 < N
   ·have := hgo i h; omega
   ·by_cases h0 : i = 0
    ·subst h0; simp
    ·have := hgo (i - 1) (by omega)
     obtain ⟨q, rfl⟩ : ∃ q, i = q + 1 := ⟨i - 1, by omega⟩
     rw [Nat.add_sub_cancel] at this
     rw [Nat.succ_mul q s] at hm' ⊢
     omega
  rw [if_pos (by omega), if_pos (by omega), if_pos (by omega), hcut]
  have hp := piece_le l s N i
  have hsl := segs_len l [a0 / 256, a0 % 256] s N i
  have hsl2 : i * (l.length + [a0 / 256, a0 % 256].length + 2) ≤ 64 * 2052 := Nat.mul_le_mul (by omega) (by simp; omega)
  have hlast : (((i + 1 : Nat) : Int) == (N : Int)) = !decide (i + 1 < N) := by
   by_cases h : i + 1 < N
   ·rw [decide_eq_true h]; simp; omega
   ·rw [decide_eq_false h]; simp; omega
  have hseg := piece_seg (N := N) (k := i) (la := !decide (i + 1 < N)) rfl l [a0 / 256, a0 % 256] s
  rw [hlast]
  generalize (!decide (i + 1 < N)) = la at *
  by_cases c0 : i = 0
  ·have c0' : (i : Int) = 0 := by omega
   rw [if_pos c0', w64 (x := 2 + _) (by omega) (by omega), w64 (by omega) (by omega), length_eq (by omega) (by omega) (by omega)]
   simp only [Option.bind_some]
   rw [if_pos (by simp; omega), if_pos (by simp; omega), if_pos (by simp; omega)]
   have hnext : segsOf l [a0 / 256, a0 % 256] s N i ++ [(2 + ((pieceOf l s N i).length : Int) + 2 + if la = true then 0 else 32768) / 256, (2 + ((pieceOf l s N i).length : Int) + 2 + if la = true then 0 else 32768) % 256] ++ [a0 / 256, a0 % 256] ++ pieceOf l s N i =
     segsOf l [a0 / 256, a0 % 256] s N (i + 1) := by
    have := last_eq (m := 2 + ((pieceOf l s N i).length : Int) + 2 + if la = true then 0 else 32768) hseg (if_pos c0) (by cases la <;> simp <;> omega) (by cases la <;> simp <;> omega)
    rw [← this]
    simp only [List.append_assoc]
   rw [hnext]
   exact ih (i + 1) k (by omega) (by omega)
  ·have c0' : ¬ (i : Int) = 0 := by omega
   rw [if_neg c0', w64 (by omega) (by omega), length_eq (by omega) (by omega) (by omega)]
   simp only [Option.bind_some]
   rw [if_pos (by simp; omega), if_pos (by simp; omega)]
   have hnext : segsOf l [a0 / 256, a0 % 256] s N i ++ [(2 + ((pieceOf l s N i).length : Int) + if la = true then 0 else 32768) / 256, (2 + ((pieceOf l s N i).length : Int) + if la = true then 0 else 32768) % 256] ++ pieceOf l s N i =
     segsOf l [a0 / 256, a0 % 256] s N (i + 1) := by
    have := last_eq (m := 2 + ((pieceOf l s N i).length : Int) + if la = true then 0 else 32768) hseg (if_neg c0) (by cases la <;> simp) (by cases la <;> simp <;> omega)
    rw [← this]
    simp only [List.append_assoc, List.append_nil]
   rw [hnext]
   exact ih (i + 1) k (by omega) (by omega)
theorem ref_gwrite (a0 : Int) (l : List Int) (a1 : Int) {k : Nat} (hk : 200 ≤ k) : trothref04_Write.f k a0 l a1 = gds_Write.f a0 l a1 := by
 obtain ⟨k, rfl⟩ : ∃ m, k = m + 1 + 1 + 1 := ⟨k - 3, by omega⟩
 unfold trothref04_Write.f gds_Write.f
 by_cases c1 : a1 < 1 ∨ 2048 < a1
 ·rw [if_pos c1]
  by_cases c : a1 < 1
  ·rw [if_pos c]; simp only [trothref04_Write.j0]; rfl
  ·rw [if_neg c, decide_eq_true (by omega)]; simp only [trothref04_Write.j0]; rfl
 rw [if_neg c1, if_neg (by omega), decide_eq_false (by omega)]
 simp only [trothref04_Write.j0, Bool.false_eq_true, if_false]
 by_cases c2 : a0 < 0 ∨ 65535 < a0 ∨ 2048 < (l.length : Int)
 ·rw [if_pos c2]
  by_cases c : a0 < 0
  ·rw [if_pos c]; simp only [trothref04_Write.j1]; rfl
  ·rw [if_neg c]
   by_cases c' : a0 > 65535
   ·rw [if_pos c']; simp only [trothref04_Write.j1]; rfl
   ·rw [if_neg c', decide_eq_true (by omega)]; simp only [trothref04_Write.j1]; rfl
 rw [if_neg c2, if_neg (by omega), if_neg (by omega), decide_eq_false (by omega)]
 simp only [trothref04_Write.j1, Bool.false_eq_true, if_false]
 obtain ⟨s, rfl⟩ := Int.eq_ofNat_of_zero_le (show 0 ≤ a1 by omega)
 have ec : wrap64 (Int.tdiv (wrap64 ((wrap64 ((l.length : Int) + (s : Int))) - 1)) (s : Int)) = (((l.length + s - 1) / s : Nat) : Int) := by
  have hle : (l.length + s - 1) / s ≤ l.length + s - 1 := Nat.div_le_self _ _
  rw [w64 (x := (l.length : Int) + s) (by omega) (by omega), w64 (x := (l.length : Int) + s - 1) (by omega) (by omega), show (l.length : Int) + s - 1 = ((l.length + s - 1 : Nat) : Int) by omega,
   Int.tdiv_eq_ediv_of_nonneg (by omega), ← Int.natCast_ediv]
  generalize (l.length + s - 1) / s = q at *
  exact w64 (by omega) (by omega)
 rw [if_neg (by omega), ec]
 have hcnt : (if ((((l.length + s - 1) / s : Nat) : Int) = 0) then trothref04_Write.j2 (k + 1) s 1 a0 l else trothref04_Write.j2 (k + 1) s (((l.length + s - 1) / s : Nat) : Int) a0 l) = trothref04_Write.j2 (k + 1) s (countOf l.length s : Nat) a0 l := by
  unfold countOf
  by_cases h : l.length = 0
  ·rw [if_pos h, if_pos (by rw [h, Nat.zero_add, Nat.div_eq_of_lt (by omega)]; rfl)]; rfl
  ·have h0 : 1 ≤ (l.length + s - 1) / s := (Nat.le_div_iff_mul_le (by omega)).2 (by omega)
   rw [if_neg h, if_neg (by omega)]
 rw [hcnt]
 obtain ⟨n1, n2, n3⟩ := count_facts l.length s (by omega)
 have hbig : (64 < countOf l.length s) ↔ s * 64 < l.length := by
  unfold countOf
  by_cases h : l.length = 0
  ·rw [if_pos h]; omega
  ·rw [if_neg h]
   have := Nat.le_div_iff_mul_le (x := 65) (y := l.length + s - 1) (k := s) (by omega)
   omega
 simp only [trothref04_Write.j2, Int.toNat_natCast]
 generalize countOf l.length s = N at *
 by_cases c3 : (s : Int) * 64 < (l.length : Int)
 ·rw [if_pos c3, if_pos (by have := hbig.2 (by omega); omega)]
 rw [if_neg c3, if_neg (by have := mt hbig.1 (by omega); omega), show IntKind.u64.wrap a0 = a0 by rw [IntKind.wrap_u64]; omega, put2 (by omega) (by omega) (by omega)]
 simp only [Option.bind_some]
 have := refw_l0 (l := l) (s := s) (N := N) (a0 := a0) (by omega) (by omega) (by have := mt hbig.1 (by omega); omega) (by omega) (by omega) n2 n3 N 0 k (by omega) (by have := mt hbig.1 (by omega); omega)
 exact this
end Go.Proofs.Ytfndcfffbpbbhaa.Q
