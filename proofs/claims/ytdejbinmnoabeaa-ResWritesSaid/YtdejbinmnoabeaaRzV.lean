/- Walk of trothlaw15.ResWrites, with the plain laws of Write and Read: it answers true. Conditions: the changes and the bytes came in. -/
import Derived.Test.YtdejbinmnoabeaaRzE
import Derived.Test.YtdejbinmnoabeaaQxy
import Derived.Lib.Hide
import Derived.Test.YtdejbinmnoabeaaRzS
import Derived.Test.YtdejbinmnoabeaaArgs
import Derived.OpenShut
import Derived.ProofKit
namespace Go.Proofs.Ytdejbinmnoabeaa
open Go.RowKit Go.Mine Go.Proofs.YtdejbinmnoabeaaW.PrintWords
set_option linter.unusedVariables false
set_option linter.unusedSimpArgs false
theorem read_one (A : Option Addr) (c : Nat) (w : World) : Calls Try.prog 11 #[.slice A 1 c] w fun e w' => e = .returned (.tuple #[.slice none 0 0, .int .i64 11]) ∧ w = w' := by
  go_enter Try.func11, Try.ntmps11
  go_wp2_with fail
  go_ret2
  exact ⟨rfl, rfl⟩
set_option maxRecDepth 100000 in
set_option maxHeartbeats 4000000 in
theorem alive_any (w : World) : Calls Try.prog 8 #[] w fun e w' => e = .returned (.bool true) ∧ Below w.heap.size w w' := by
  obtain ⟨s1, hs1⟩ : ∃ s1, s1 = (RM.new.change 1 ⟨1, 3, 9⟩).2 := ⟨_, rfl⟩
  obtain ⟨s2, hs2⟩ : ∃ s2, s2 = (s1.push 1 7).2 := ⟨_, rfl⟩
  obtain ⟨s3, hs3⟩ : ∃ s3, s3 = (s2.prepare 1).2 := ⟨_, rfl⟩
  have e2 : (s2.prepare 1).1 = ([⟨1, 3, 9⟩, ⟨3, 0, 7⟩], 0) := by rw [hs2, hs1]; kernel_rfl
  have e3 : (s3.push 1 8).1 = 7 := by rw [hs3, hs2, hs1]; kernel_rfl
  have h0 := new_rat w
  have C1 := hid (put_any h0 1 3 9)
  have hb0 : Below w.heap.size w (w.alloc (.cells nilRes 91)) := (Below.refl _ _).alloc (Nat.le_refl _) _
  rw [← hs1] at C1
  have HB0 := hid hb0
  have HS2 := hid hs2
  have HS3 := hid hs3
  have E2 := hid e2
  have E3 := hid e3
  clear h0 hb0 hs1 hs2 hs3 e2 e3
  go_enter Try.func8, Try.ntmps8
  go_wp2_with fail
  refine (new_any w).mono ?_
  rintro e w1 ⟨rfl, rfl⟩
  go_wp2_with fail
  refine C1.out.mono ?_
  rintro e w2 ⟨rfl, ⟨F2, h2, g2⟩, f2⟩
  have C2 := hid (push_any h2 1 7)
  rw [← HS2.out] at C2
  have hg2 : ∀ i, F2 i → w.heap.size ≤ i := fun i hi => (g2 i hi).elim (fun q => Nat.le_of_eq q.symm) (fun q => Nat.le_trans HB0.out.size q)
  have hb2 : Below w.heap.size w w2 := HB0.out.trans (f2.below HB0.out.size (fun k hk q => by omega))
  have HG2 := hid hg2
  have HB2 := hid hb2
  clear C1 h2 g2 f2 hg2 hb2 HB0
  go_wp2_with fail
  refine C2.out.mono ?_
  rintro e w3 ⟨rfl, ⟨F3, h3, g3⟩, f3⟩
  have C3 := hid (prepare_any h3 1)
  have hg3 : ∀ i, F3 i → w.heap.size ≤ i := fun i hi => (g3 i hi).elim (HG2.out i) (fun q => Nat.le_trans HB2.out.size q)
  have hb3 : Below w.heap.size w w3 := HB2.out.trans (f3.below HB2.out.size (fun k hk q => by have := HG2.out k q; omega))
  have HG3 := hid hg3
  have HB3 := hid hb3
  clear C2 h3 g3 f3 hg3 hb3 HG2 HB2
  go_wp2_with fail
  refine C3.out.mono ?_
  rintro e w4 ⟨A4, c4, rfl, ⟨F4, h4, g4, o4⟩, u4, hc4, f4⟩
  have hg4 : ∀ i, F4 i → w.heap.size ≤ i := fun i hi => (g4 i hi).elim (HG3.out i) (fun q => Nat.le_trans HB3.out.size q)
  have hb4 : Below w.heap.size w w4 := HB3.out.trans (f4.below HB3.out.size (fun k hk q => by have := HG3.out k q; omega))
  rw [← HS3.out] at h4
  have C4 := hid (push_any h4 1 8)
  rw [E2.out] at u4 hc4 ⊢
  rw [E3.out] at C4
  have HG4 := hid hg4
  have HB4 := hid hb4
  have HU4 := hid u4
  have HO4 := hid o4
  clear C3 h4 g4 f4 hg4 hb4 HG3 HB3 u4 o4
  go_wp2_with fail
  refine C4.out.mono ?_
  rintro e w5 ⟨rfl, ⟨F5, h5, g5⟩, f5⟩
  have hb5 : Below w.heap.size w w5 := HB4.out.trans (f5.below HB4.out.size (fun k hk q => by have := HG4.out k q; omega))
  have hu5 : ChAt w5 w5.heap.size A4 [⟨1, 3, 9⟩, ⟨3, 0, 7⟩] := row_fr HU4.out f5 (fun k off e => (HO4.out k off e).2)
  have hb6 : Below w5.heap.size w5 (w5.alloc (.cells #[.int .u8 1] 5)) := (Below.refl _ _).alloc (Nat.le_refl _) _
  have hu6 := (Q.RowAt.below hu5 hb6)
  have HB6 := hid (hb5.trans (hb6.mono hb5.size))
  obtain ⟨b4, off4, rfl, hlt4, hcc⟩ := hu6 0 _ rfl
  obtain ⟨b4', off4', e4, hlt4', hcc2⟩ := hu6 1 _ rfl
  cases e4
  have HK := hid hcc
  have HK2 := hid hcc2
  clear C4 h5 g5 f5 hb5 hu5 hb6 hu6 HU4 HO4 HB4 HG4 hcc hcc2 hlt4'
  go_wp2_with fail
  generalize (w5.alloc (.cells #[.int .u8 1] 5)) = w6 at *
  refine (read_one _ _ _).mono ?_
  rintro e w7 ⟨rfl, rfl⟩
  have k0 : w6.cell? ⟨b4, off4, none⟩ = some (.int .i64 1) := HK.out 0 _ rfl
  have k1 : w6.cell? ⟨b4, off4 + 1, none⟩ = some (.int .i64 3) := HK.out 1 _ rfl
  have k2 : w6.cell? ⟨b4, off4 + 2, none⟩ = some (.int .u64 9) := HK.out 2 _ rfl
  have k3 : w6.cell? ⟨b4, off4 + 3, none⟩ = some (.int .i64 3) := HK2.out 0 _ rfl
  have k4 : w6.cell? ⟨b4, off4 + 4, none⟩ = some (.int .i64 0) := HK2.out 1 _ rfl
  have k5 : w6.cell? ⟨b4, off4 + 5, none⟩ = some (.int .u64 7) := HK2.out 2 _ rfl
  go_wp2_with fail
  go_ret
  exact ⟨rfl, HB6.out⟩
end Go.Proofs.Ytdejbinmnoabeaa
namespace Go.Proofs.Ytdejbinmnoabeaa.P
open Go.RowKit Go.Proofs.YtdejbinmnoabeaaW.PrintWords Go.Proofs.YtdejbinmnoabeaaW.PrintLast Go.Proofs.YtdejbinmnoabeaaW.PrintMore
set_option linter.unusedVariables false
set_option linter.unusedSimpArgs false
def Byt (x : Int) : Prop := 0 ≤ x ∧ x < 256
def num8 (a0 a1 a2 a3 a4 a5 a6 a7 : Int) : Int := a0 * 72057594037927936 + a1 * 281474976710656 + a2 * 1099511627776 + a3 * 4294967296 + a4 * 16777216 + a5 * 65536 + a6 * 256 + a7
theorem w64 {x : Int} (h0 : 0 ≤ x) (h1 : x ≤ 1000000) : wrap64 x = x := by unfold wrap64; omega
theorem or_u64 {a b : Int} (ha : 0 ≤ a ∧ a < 72057594037927936) (hb : 0 ≤ b ∧ b < 256) : Go.bits .or .u64 (a * 256) b = a * 256 + b := by
  obtain ⟨n, rfl⟩ := Int.eq_ofNat_of_zero_le ha.1
  obtain ⟨m, rfl⟩ := Int.eq_ofNat_of_zero_le hb.1
  unfold Go.bits
  have h1 : (BitVec.ofInt IntKind.u64.bits ((n : Int) * 256) ||| BitVec.ofInt IntKind.u64.bits (m : Int)).toNat = n * 256 + m := by
    rw [BitVec.toNat_or, BitVec.toNat_ofInt, BitVec.toNat_ofInt]
    have e1 : (((n : Int) * 256) % ((2 ^ IntKind.u64.bits : Nat) : Int)).toNat = 2 ^ 8 * n := by
      rw [show ((2 ^ IntKind.u64.bits : Nat) : Int) = 18446744073709551616 from rfl]; omega
    have e2 : ((m : Int) % ((2 ^ IntKind.u64.bits : Nat) : Int)).toNat = m := by
      rw [show ((2 ^ IntKind.u64.bits : Nat) : Int) = 18446744073709551616 from rfl]; omega
    rw [e1, e2, ← Nat.two_pow_add_eq_or_of_lt (show m < 2 ^ 8 by omega)]
    omega
  simp only [h1]
  rw [IntKind.wrap_u64]
  omega
theorem og (k : Nat) (x : Int) (l : List Int) (n i : Int) (hx : 0 ≤ x ∧ x < 72057594037927936) (hr : Byt (rd l i)) (h0 : 0 ≤ i) (hi : i < (l.length : Int)) (hn : i < n) (h1 : i + 1 ≤ 9) :
    oct_Get.l0 (k + 1) x l n i = oct_Get.l0 k (x * 256 + rd l i) l n (i + 1) := by
  unfold Byt at hr
  rw [oct_Get.l0, if_pos hn, if_pos h0, if_pos hi, IntKind.wrap_u64, IntKind.wrap_u64, show x * 256 % 18446744073709551616 = x * 256 by omega, show rd l i % 18446744073709551616 = rd l i by omega, or_u64 hx hr, w64 (by omega) (by omega)]
theorem rg (k : Nat) (l : List Int) (x i : Int) (hx : 0 ≤ x ∧ x < 72057594037927936) (hr : Byt (rd l i)) (h0 : 0 ≤ i) (hi : i < (l.length : Int)) (h1 : i + 1 ≤ 9) : trothref01_Get.l0 (k + 1) l x i = trothref01_Get.l0 k l (x * 256 + rd l i) (i + 1) := by
  unfold Byt at hr
  rw [trothref01_Get.l0, if_pos hi, if_pos h0, w64 (by omega) (by omega), IntKind.wrap_u64, IntKind.wrap_u64, IntKind.wrap_u64, show 256 * x % 18446744073709551616 = x * 256 by omega, show rd l i % 18446744073709551616 = rd l i by omega, show (x * 256 + rd l i) % 18446744073709551616 = x * 256 + rd l i by omega]
theorem oget8 (a0 a1 a2 a3 a4 a5 a6 a7 : Int) (h0 : Byt a0) (h1 : Byt a1) (h2 : Byt a2) (h3 : Byt a3) (h4 : Byt a4) (h5 : Byt a5) (h6 : Byt a6) (h7 : Byt a7) (k : Nat) : oct_Get.f (k + 10) [a0, a1, a2, a3, a4, a5, a6, a7] = some (num8 a0 a1 a2 a3 a4 a5 a6 a7, 0) := by
  have r0 : rd [a0, a1, a2, a3, a4, a5, a6, a7] 0 = a0 := rfl
  have r1 : rd [a0, a1, a2, a3, a4, a5, a6, a7] (0 + 1) = a1 := rfl
  have r2 : rd [a0, a1, a2, a3, a4, a5, a6, a7] (0 + 1 + 1) = a2 := rfl
  have r3 : rd [a0, a1, a2, a3, a4, a5, a6, a7] (0 + 1 + 1 + 1) = a3 := rfl
  have r4 : rd [a0, a1, a2, a3, a4, a5, a6, a7] (0 + 1 + 1 + 1 + 1) = a4 := rfl
  have r5 : rd [a0, a1, a2, a3, a4, a5, a6, a7] (0 + 1 + 1 + 1 + 1 + 1) = a5 := rfl
  have r6 : rd [a0, a1, a2, a3, a4, a5, a6, a7] (0 + 1 + 1 + 1 + 1 + 1 + 1) = a6 := rfl
  have r7 : rd [a0, a1, a2, a3, a4, a5, a6, a7] (0 + 1 + 1 + 1 + 1 + 1 + 1 + 1) = a7 := rfl
  have g0 := h0
  have g1 := h1
  have g2 := h2
  have g3 := h3
  have g4 := h4
  have g5 := h5
  have g6 := h6
  have g7 := h7
  unfold Byt at g0 g1 g2 g3 g4 g5 g6 g7
  have f : oct_Get.f (k + 1 + 1 + 1 + 1 + 1 + 1 + 1 + 1 + 1 + 1) [a0, a1, a2, a3, a4, a5, a6, a7] = oct_Get.l0 (k + 1 + 1 + 1 + 1 + 1 + 1 + 1 + 1 + 1) 0 [a0, a1, a2, a3, a4, a5, a6, a7] 8 0 := by
    unfold oct_Get.f
    rw [if_neg (by simp), decide_eq_false (by simp)]
    rw [oct_Get.j0, if_neg (by simp)]
    rfl
  refine f.trans ?_
  rw [og _ _ _ _ _ (by omega) (by rw [r0]; exact h0) (by omega) (by simp) (by omega) (by omega), r0]
  rw [og _ _ _ _ _ (by omega) (by rw [r1]; exact h1) (by omega) (by simp) (by omega) (by omega), r1]
  rw [og _ _ _ _ _ (by omega) (by rw [r2]; exact h2) (by omega) (by simp) (by omega) (by omega), r2]
  rw [og _ _ _ _ _ (by omega) (by rw [r3]; exact h3) (by omega) (by simp) (by omega) (by omega), r3]
  rw [og _ _ _ _ _ (by omega) (by rw [r4]; exact h4) (by omega) (by simp) (by omega) (by omega), r4]
  rw [og _ _ _ _ _ (by omega) (by rw [r5]; exact h5) (by omega) (by simp) (by omega) (by omega), r5]
  rw [og _ _ _ _ _ (by omega) (by rw [r6]; exact h6) (by omega) (by simp) (by omega) (by omega), r6]
  rw [og _ _ _ _ _ (by omega) (by rw [r7]; exact h7) (by omega) (by simp) (by omega) (by omega), r7]
  rw [oct_Get.l0, if_neg (by simp)]
  unfold num8
  congr 2
  omega
theorem rget8 (a0 a1 a2 a3 a4 a5 a6 a7 : Int) (h0 : Byt a0) (h1 : Byt a1) (h2 : Byt a2) (h3 : Byt a3) (h4 : Byt a4) (h5 : Byt a5) (h6 : Byt a6) (h7 : Byt a7) (k : Nat) : trothref01_Get.f (k + 10) [a0, a1, a2, a3, a4, a5, a6, a7] = some (num8 a0 a1 a2 a3 a4 a5 a6 a7, 0) := by
  have r0 : rd [a0, a1, a2, a3, a4, a5, a6, a7] 0 = a0 := rfl
  have r1 : rd [a0, a1, a2, a3, a4, a5, a6, a7] (0 + 1) = a1 := rfl
  have r2 : rd [a0, a1, a2, a3, a4, a5, a6, a7] (0 + 1 + 1) = a2 := rfl
  have r3 : rd [a0, a1, a2, a3, a4, a5, a6, a7] (0 + 1 + 1 + 1) = a3 := rfl
  have r4 : rd [a0, a1, a2, a3, a4, a5, a6, a7] (0 + 1 + 1 + 1 + 1) = a4 := rfl
  have r5 : rd [a0, a1, a2, a3, a4, a5, a6, a7] (0 + 1 + 1 + 1 + 1 + 1) = a5 := rfl
  have r6 : rd [a0, a1, a2, a3, a4, a5, a6, a7] (0 + 1 + 1 + 1 + 1 + 1 + 1) = a6 := rfl
  have r7 : rd [a0, a1, a2, a3, a4, a5, a6, a7] (0 + 1 + 1 + 1 + 1 + 1 + 1 + 1) = a7 := rfl
  have g0 := h0
  have g1 := h1
  have g2 := h2
  have g3 := h3
  have g4 := h4
  have g5 := h5
  have g6 := h6
  have g7 := h7
  unfold Byt at g0 g1 g2 g3 g4 g5 g6 g7
  have f : trothref01_Get.f (k + 1 + 1 + 1 + 1 + 1 + 1 + 1 + 1 + 1 + 1) [a0, a1, a2, a3, a4, a5, a6, a7] = trothref01_Get.l0 (k + 1 + 1 + 1 + 1 + 1 + 1 + 1 + 1 + 1) [a0, a1, a2, a3, a4, a5, a6, a7] 0 0 := by
    unfold trothref01_Get.f
    rw [if_neg (by simp), decide_eq_false (by simp)]
    rw [trothref01_Get.j0, if_neg (by simp)]
  refine f.trans ?_
  rw [rg _ _ _ _ (by omega) (by rw [r0]; exact h0) (by omega) (by simp) (by omega), r0]
  rw [rg _ _ _ _ (by omega) (by rw [r1]; exact h1) (by omega) (by simp) (by omega), r1]
  rw [rg _ _ _ _ (by omega) (by rw [r2]; exact h2) (by omega) (by simp) (by omega), r2]
  rw [rg _ _ _ _ (by omega) (by rw [r3]; exact h3) (by omega) (by simp) (by omega), r3]
  rw [rg _ _ _ _ (by omega) (by rw [r4]; exact h4) (by omega) (by simp) (by omega), r4]
  rw [rg _ _ _ _ (by omega) (by rw [r5]; exact h5) (by omega) (by simp) (by omega), r5]
  rw [rg _ _ _ _ (by omega) (by rw [r6]; exact h6) (by omega) (by simp) (by omega), r6]
  rw [rg _ _ _ _ (by omega) (by rw [r7]; exact h7) (by omega) (by simp) (by omega), r7]
  rw [trothref01_Get.l0, if_neg (by simp)]
  unfold num8
  congr 2
  omega
theorem rp0 (k : Nat) (x : Int) (l : List Int) (i : Int) (hx : 0 ≤ x ∧ x < 18446744073709551616) (h0 : 0 ≤ i) (h8 : i < 8) (hl : l.length < 100) : trothref01_Put.l0 (k + 1) x 8 l i = trothref01_Put.l0 k (x / 256) 8 (l ++ [x % 256]) (i + 1) := by
  rw [trothref01_Put.l0, if_pos h8, if_pos (by omega), w64 (by omega) (by omega), Int.tdiv_eq_ediv_of_nonneg hx.1, Int.tmod_eq_emod_of_nonneg hx.1, IntKind.wrap_u64, show x / 256 % 18446744073709551616 = x / 256 by omega, show x % 256 % 256 = x % 256 by omega]
theorem rp1 (k : Nat) (l m : List Int) (i : Int) (h0 : 0 ≤ i) (hi : i < (l.length : Int)) (h8 : i < 8) (hm : m.length < 100) : trothref01_Put.l1 (k + 1) l m i = trothref01_Put.l1 k l (m ++ [rd l i]) (i - 1) := by
  rw [trothref01_Put.l1, if_pos (show i ≥ 0 from h0), if_pos h0, if_pos hi, if_pos (by omega)]
  congr 1
  unfold wrap64
  omega
theorem rput8 (x : Int) (h0 : 0 ≤ x) (h1 : x < 18446744073709551616) (k : Nat) : trothref01_Put.f (k + 19) x 8 = some (be8 x, 0) := by
  have f : trothref01_Put.f (k + 1 + 1 + 1 + 1 + 1 + 1 + 1 + 1 + 1 + 1 + 1 + 1 + 1 + 1 + 1 + 1 + 1 + 1 + 1) x 8 = trothref01_Put.l0 (k + 1 + 1 + 1 + 1 + 1 + 1 + 1 + 1 + 1 + 1 + 1 + 1 + 1 + 1 + 1 + 1 + 1 + 1) x 8 [] 0 := by
    unfold trothref01_Put.f
    rw [if_neg (by simp), decide_eq_false (by simp)]
    rw [trothref01_Put.j0, if_neg (by simp)]
  refine f.trans ?_
  rw [rp0 _ _ _ _ ⟨by omega, by omega⟩ (by omega) (by omega) (by simp)]
  rw [rp0 _ _ _ _ ⟨by omega, by omega⟩ (by omega) (by omega) (by simp)]
  rw [rp0 _ _ _ _ ⟨by omega, by omega⟩ (by omega) (by omega) (by simp)]
  rw [rp0 _ _ _ _ ⟨by omega, by omega⟩ (by omega) (by omega) (by simp)]
  rw [rp0 _ _ _ _ ⟨by omega, by omega⟩ (by omega) (by omega) (by simp)]
  rw [rp0 _ _ _ _ ⟨by omega, by omega⟩ (by omega) (by omega) (by simp)]
  rw [rp0 _ _ _ _ ⟨by omega, by omega⟩ (by omega) (by omega) (by simp)]
  rw [rp0 _ _ _ _ ⟨by omega, by omega⟩ (by omega) (by omega) (by simp)]
  rw [trothref01_Put.l0, if_neg (by simp), if_neg (by omega)]
  simp only [List.nil_append, List.cons_append]
  rw [show wrap64 ((8 : Int) - 1) = 7 by unfold wrap64; omega]
  rw [rp1 _ _ _ _ (by omega) (by simp) (by omega) (by simp)]
  rw [rp1 _ _ _ _ (by omega) (by simp) (by omega) (by simp)]
  rw [rp1 _ _ _ _ (by omega) (by simp) (by omega) (by simp)]
  rw [rp1 _ _ _ _ (by omega) (by simp) (by omega) (by simp)]
  rw [rp1 _ _ _ _ (by omega) (by simp) (by omega) (by simp)]
  rw [rp1 _ _ _ _ (by omega) (by simp) (by omega) (by simp)]
  rw [rp1 _ _ _ _ (by omega) (by simp) (by omega) (by simp)]
  rw [rp1 _ _ _ _ (by omega) (by simp) (by omega) (by simp)]
  rw [trothref01_Put.l1, if_neg (by simp)]
  simp only [List.nil_append, List.cons_append]
  unfold be8
  congr 2
  show ([x / 256 / 256 / 256 / 256 / 256 / 256 / 256 % 256, x / 256 / 256 / 256 / 256 / 256 / 256 % 256, x / 256 / 256 / 256 / 256 / 256 % 256, x / 256 / 256 / 256 / 256 % 256, x / 256 / 256 / 256 % 256, x / 256 / 256 % 256, x / 256 % 256, x % 256] : List Int) = _
  simp only [List.cons.injEq, and_true]
  refine ⟨?_, ?_, ?_, ?_, ?_, ?_⟩ <;> omega
theorem be8_num (x : Int) (h0 : 0 ≤ x) (h1 : x < 18446744073709551616) : ∃ a0 a1 a2 a3 a4 a5 a6 a7 : Int, be8 x = [a0, a1, a2, a3, a4, a5, a6, a7] ∧ Byt a0 ∧ Byt a1 ∧ Byt a2 ∧ Byt a3 ∧ Byt a4 ∧ Byt a5 ∧ Byt a6 ∧ Byt a7 ∧ num8 a0 a1 a2 a3 a4 a5 a6 a7 = x := by
  refine ⟨_, _, _, _, _, _, _, _, rfl, ⟨by omega, by omega⟩, ⟨by omega, by omega⟩, ⟨by omega, by omega⟩, ⟨by omega, by omega⟩, ⟨by omega, by omega⟩, ⟨by omega, by omega⟩, ⟨by omega, by omega⟩, ⟨by omega, by omega⟩, ?_⟩
  unfold num8
  omega
theorem num8_be (a0 a1 a2 a3 a4 a5 a6 a7 : Int) (h0 : Byt a0) (h1 : Byt a1) (h2 : Byt a2) (h3 : Byt a3) (h4 : Byt a4) (h5 : Byt a5) (h6 : Byt a6) (h7 : Byt a7) : be8 (num8 a0 a1 a2 a3 a4 a5 a6 a7) = [a0, a1, a2, a3, a4, a5, a6, a7] ∧ 0 ≤ num8 a0 a1 a2 a3 a4 a5 a6 a7 ∧ num8 a0 a1 a2 a3 a4 a5 a6 a7 < 18446744073709551616 := by
  unfold Byt at h0 h1 h2 h3 h4 h5 h6 h7
  unfold be8 num8
  refine ⟨?_, by omega, by omega⟩
  simp only [List.cons.injEq, and_true]
  refine ⟨?_, ?_, ?_, ?_, ?_, ?_, ?_, ?_⟩ <;> omega
end Go.Proofs.Ytdejbinmnoabeaa.P
namespace Go.Proofs.Ytdejbinmnoabeaa.P
open Go.RowKit Go.Proofs.YtdejbinmnoabeaaW.PrintWords Go.Proofs.YtdejbinmnoabeaaW.PrintLast Go.Proofs.YtdejbinmnoabeaaW.PrintMore
set_option linter.unusedVariables false
set_option linter.unusedSimpArgs false
def Bytes (l : List Int) : Prop := ∀ x ∈ l, Byt x
theorem Bytes.drop {l : List Int} (h : Bytes l) (n : Nat) : Bytes (l.drop n) := fun x hx => h x (List.mem_of_mem_drop hx)
theorem Bytes.take {l : List Int} (h : Bytes l) (n : Nat) : Bytes (l.take n) := fun x hx => h x (List.mem_of_mem_take hx)
def gN : List Int → Int
  | [a0, a1, a2, a3, a4, a5, a6, a7] => num8 a0 a1 a2 a3 a4 a5 a6 a7
  | _ => 0
theorem eight {l : List Int} (h : l.length = 8) : ∃ a0 a1 a2 a3 a4 a5 a6 a7, l = [a0, a1, a2, a3, a4, a5, a6, a7] := by
  match l, h with
  | [a0, a1, a2, a3, a4, a5, a6, a7], _ => exact ⟨a0, a1, a2, a3, a4, a5, a6, a7, rfl⟩
theorem gN_get {l : List Int} (h : l.length = 8) (hb : Bytes l) (k : Nat) : oct_Get.f (k + 10) l = some (gN l, 0) ∧ trothref01_Get.f (k + 10) l = some (gN l, 0) ∧ 0 ≤ gN l ∧ gN l < 18446744073709551616 := by
  obtain ⟨a0, a1, a2, a3, a4, a5, a6, a7, rfl⟩ := eight h
  have h0 := hb a0 (by simp)
  have h1 := hb a1 (by simp)
  have h2 := hb a2 (by simp)
  have h3 := hb a3 (by simp)
  have h4 := hb a4 (by simp)
  have h5 := hb a5 (by simp)
  have h6 := hb a6 (by simp)
  have h7 := hb a7 (by simp)
  exact ⟨oget8 _ _ _ _ _ _ _ _ h0 h1 h2 h3 h4 h5 h6 h7 k, rget8 _ _ _ _ _ _ _ _ h0 h1 h2 h3 h4 h5 h6 h7 k, (num8_be _ _ _ _ _ _ _ _ h0 h1 h2 h3 h4 h5 h6 h7).2⟩
/-- What stands behind so many changes' bytes. -/
def rdL : Nat → List Int → List S62 → List S62 × Int
  | 0, _, acc => (acc, 0)
  | m + 1, s, acc => if rd s 0 < 1 ∨ 4 < rd s 0 ∨ 4611686018427387904 < gN ((s.drop 1).take 8) then ([], 30) else rdL m (s.drop 17) (acc ++ [⟨rd s 0, gN ((s.drop 1).take 8), gN ((s.drop 9).take 8)⟩])
def readC (b : List Int) : List S62 × Int := if b.length % 17 ≠ 0 then ([], 11) else if 816 < b.length then ([], 2) else rdL (b.length / 17) b []
theorem cut8 {w : World} {A : Option Addr} {c n : Nat} {s : List Int} (h : Kd.C (Kd.int .u8) w A s.length s) (hs : s.length = n) (hc : n ≤ c) (a b : Int) (ha : 0 ≤ a) (hb : b = a + 8) (hn : b ≤ n) :
    ∃ A', (∀ W : World, (Instr.slice 23 (.slice A n c) (some (.int .i64 a)) (some (.int .i64 b)) none).run Try.prog W = .ok (.slice A' 8 (c - a.toNat)) W) ∧ Kd.C (Kd.int .u8) w A' ((s.drop a.toNat).take 8).length ((s.drop a.toNat).take 8) ∧ 8 ≤ c - a.toNat ∧ ((s.drop a.toNat).take 8).length = 8 := by
  subst hs
  obtain ⟨i, hi, _, hsz, _⟩ := info_parts info5
  obtain ⟨A', hcut, hA, hC⟩ := print_mid_of (P := Try.prog) (Value.int .u8) 0 23 5 .i64 .i64 Try.underlying23 hi hsz A c s a b ha (by omega) hn hc
  have e : (s.take b.toNat).drop a.toNat = (s.drop a.toNat).take 8 := by
    rw [List.drop_take, show b.toNat - a.toNat = 8 by omega]
  have hl : ((s.drop a.toNat).take 8).length = 8 := by rw [List.length_take, List.length_drop]; omega
  have hA2 := hA _ (Kd.reads_of_C h)
  rw [e] at hA2 hC
  refine ⟨A', fun W => ?_, Kd.C_of_reads (h1 := fun _ => rfl) hA2, by omega, hl⟩
  have := hcut W
  rw [e, hl] at this
  exact this
theorem cutT {w : World} {A : Option Addr} {c n : Nat} {s : List Int} (h : Kd.C (Kd.int .u8) w A s.length s) (hs : s.length = n) (hc : n ≤ c) (hn : 17 ≤ n) :
    ∃ A', (∀ W : World, (Instr.slice 23 (.slice A n c) (some (.int .i64 17)) none none).run Try.prog W = .ok (.slice A' (n - 17) (c - 17)) W) ∧ Kd.C (Kd.int .u8) w A' (s.drop 17).length (s.drop 17) ∧ (s.drop 17).length ≤ c - 17 ∧ (s.drop 17).length = n - 17 := by
  subst hs
  obtain ⟨i, hi, _, hsz, _⟩ := info_parts info5
  obtain ⟨A', hcut, hA, hC⟩ := print_drop_of (P := Try.prog) (Value.int .u8) 0 23 5 .i64 Try.underlying23 hi hsz A c s 17 (by omega) (by omega) hc
  have hA2 := hA _ (Kd.reads_of_C h)
  refine ⟨A', fun W => ?_, Kd.C_of_reads (h1 := fun _ => rfl) hA2, hC, List.length_drop⟩
  have := hcut W
  rw [show (s.drop (Int.toNat 17)).length = s.length - 17 from List.length_drop] at this
  exact this
theorem get8 {w w1 : World} {A : Option Addr} {c : Nat} {l : List Int} (h : Kd.C (Kd.int .u8) w A l.length l) (hb : Below w.heap.size w w1) (hl : l.length = 8) (hc : 8 ≤ c) (hB : Bytes l) :
    Calls Try.prog 31 #[.slice A 8 c] w1 fun e w' => e = .returned (.tuple #[.int .u64 (gN l), .int .i64 0]) ∧ ∃ q, w' = w1.drewN q := by
  have := oct_Get.calls (0 + 10) A c l (gN l) 0 w1 (Kd.C_below h hb) (by omega) (gN_get hl hB 0).1
  rw [hl] at this
  exact this.mono (by rintro e w' ⟨rfl, ⟨q, hq⟩⟩; exact ⟨rfl, q, hq⟩)
theorem bN (w : World) (n : Nat) : Below w.heap.size w (w.drewN n) := ⟨rfl, rfl, rfl, Nat.le_refl _, fun _ _ => rfl⟩
theorem b1 (w : World) : Below w.heap.size w w.drew := ⟨rfl, rfl, rfl, Nat.le_refl _, fun _ _ => rfl⟩
set_option maxRecDepth 100000 in
set_option maxHeartbeats 4000000 in
theorem read_any (A : Option Addr) (c : Nat) (b : List Int) (w : World) (hr : Kd.C (Kd.int .u8) w A b.length b) (hc : b.length ≤ c) (hb : Bytes b) :
    Calls Try.prog 11 #[.slice A b.length c] w fun e w' => ∃ v, e = .returned (.tuple #[v, .int .i64 (readC b).2]) ∧ Kd.R k62 62 w' w.heap.size (fun _ => True) v (readC b).1 ∧ Below w.heap.size w w' := by
  have hu62 := Try.underlying62
  obtain ⟨n, hn⟩ : ∃ n, b.length = n := ⟨_, rfl⟩
  rw [hn] at hc ⊢
  go_enter Try.func11, Try.ntmps11
  by_cases h17 : n % 17 = 0
  · have hd : (((n : Int) % 17) != 0) = false := by rw [bne_eq_false_iff_eq]; omega
    by_cases h816 : 816 < n
    · have hd2 : decide ((816 : Int) < n) = true := decide_eq_true (by omega)
      go_wp2
      go_ret2
      have hv : readC b = ([], 2) := by unfold readC; rw [hn, if_neg (by omega), if_pos h816]
      exact ⟨_, by (first | (rw [hv]; done) | (rw [hv]; rfl)), by rw [hv]; exact Kd.R_nil _ _ _ _ _, Below.refl _ _⟩
    · have hd2 : decide ((816 : Int) < n) = false := decide_eq_false (by omega)
      obtain ⟨m0, hm0⟩ : ∃ m0, n = 17 * m0 := ⟨n / 17, by omega⟩
      have hv : readC b = rdL m0 b [] := by unfold readC; rw [hn, if_neg (by omega), if_neg h816, show n / 17 = m0 by omega]
      rw [hv]
      obtain ⟨R, hR⟩ : ∃ R, rdL m0 b [] = R := ⟨_, rfl⟩
      rw [hR]
      obtain ⟨r1, r2⟩ := R
      have HR := Lib.hid hR
      have HC := Lib.hid hr
      have HN := Lib.hid hn
      have HBY := Lib.hid hb
      have HM0 := Lib.hid hm0
      have HM48 := Lib.hid (show m0 ≤ 48 by omega)
      clear hR hr hn hb hv hm0 h17 h816
      go_wp2
      go_loopg [0, 4] (m0 + 1) (fun g v0 v4 wr => ∃ (m N cc : Nat) (s : List Int) (acc : List S62) (A' : Option Addr), v0 = .slice A' N cc ∧ N = 17 * m ∧ s.length = N ∧ N ≤ cc ∧ g = m + 1 ∧ m + acc.length = m0 ∧ rdL m s acc = (r1, r2) ∧ Bytes s ∧ Kd.C (Kd.int .u8) w A' s.length s ∧ Kd.R k62 62 wr w.heap.size (fun _ => True) v4 acc ∧ Below w.heap.size w wr)
      case atStart => exact ⟨m0, n, c, b, [], A, rfl, HM0.out, HN.out, hc, rfl, by simp, HR.out, HBY.out, HC.out, Kd.R_nil _ _ _ _ _, Below.refl _ _⟩
      case round =>
        obtain ⟨m, M, cc, s, acc, A', rfl, hM, hsM, hcc, hg, hma, hR, hB, hC, hO, hBe⟩ := hrel
        have HG := Lib.hid hg
        have HMA := Lib.hid hma
        have HM := Lib.hid hM
        have HS := Lib.hid hsM
        have HO := Lib.hid hO
        have HBE := Lib.hid hBe
        have HCC := Lib.hid hcc
        clear hg hma hO hBe hd hd2 hc HR HC HN HBY
        cases m with
        | zero =>
          have hM0 : M = 0 := by omega
          have hR2 : (acc, (0 : Int)) = (r1, r2) := hR
          clear hR hC hB hM hsM hcc
          cases hR2
          clear HM HS HCC HMA HG
          subst hM0
          go_wp2
          go_ret2
          exact ⟨_, rfl, HO.out, HBE.out⟩
        | succ m =>
          have hM17 : 17 ≤ M := by omega
          have hpos : decide ((0 : Int) < M) = true := decide_eq_true (by omega)
          obtain ⟨A1, cut1, C1, n1, l1⟩ := cut8 hC hsM hcc 1 9 (by omega) (by omega) (by omega)
          obtain ⟨A2, cut2, C2, n2, l2⟩ := cut8 hC hsM hcc 9 17 (by omega) (by omega) (by omega)
          obtain ⟨A3, cut3, C3, n3, l3⟩ := cutT hC hsM hcc hM17
          have G1 := Lib.hid (fun w1 (h : Below w.heap.size w w1) => get8 C1 h l1 n1 ((hB.drop _).take _))
          have G2 := Lib.hid (fun w1 (h : Below w.heap.size w w1) => get8 C2 h l2 n2 ((hB.drop _).take _))
          have key0 := (gN_get l1 ((hB.drop _).take _) 0).2.2
          have val0 := (gN_get l2 ((hB.drop _).take _) 0).2.2
          obtain ⟨ad, rfl, hx⟩ := Kd.at_int hC 0 (by omega) (by omega)
          have hx : w.cell? ad = some (.int .u8 (rd s 0)) := by have := hx; rwa [show ad.add (Int.toNat 0) = ad from rfl] at this
          have hkb : Byt (rd s 0) := by
            unfold rd
            rw [List.getD_eq_getElem?_getD, List.getElem?_eq_getElem (show (Int.toNat 0) < s.length from by rw [hsM]; show 0 < M; omega)]
            exact hB _ (List.getElem_mem _)
          rw [rdL] at hR
          have d1 : (s.drop (Int.toNat 1)) = s.drop 1 := rfl
          have d9 : (s.drop (Int.toNat 9)) = s.drop 9 := rfl
          rw [d1] at G1 key0
          rw [d9] at G2 val0
          generalize gN ((s.drop 1).take 8) = key at *
          generalize gN ((s.drop 9).take 8) = val at *
          generalize hkd : rd s 0 = kd at *
          have HR := Lib.hid hR
          have HC3 := Lib.hid C3
          have HB := Lib.hid hB
          have HN3 := Lib.hid n3
          have HL3 := Lib.hid l3
          have HX := Lib.hid hx
          have HC := Lib.hid hC
          clear hR C3 hB n3 l3 hx hC C1 C2 n1 n2 l1 l2 d1 d9 hM hsM
          go_wp2_with fail
          refine (G1.out _ HBE.out).mono ?_
          rintro e w3 ⟨rfl, q3, rfl⟩
          have hb3 := Lib.hid (HBE.out.trans ((bN wr q3).mono HBE.out.size))
          go_wp2_with fail
          refine (G2.out _ hb3.out).mono ?_
          rintro e w4 ⟨rfl, q4, rfl⟩
          have hb4 := Lib.hid (hb3.out.trans ((bN (wr.drewN q3) q4).mono hb3.out.size))
          have hx4 := (hb4.out.cell (World.block_lt_of_cell? w _ HX.out)).trans HX.out
          have HO4 := Lib.hid (show Kd.R k62 62 ((wr.drewN q3).drewN q4) w.heap.size (fun _ => True) u4 acc from by (with_reducible repeat (first | apply Kd.R_alloc | apply Kd.R_drewN | apply Kd.R_drew)); exact HO.out)
          clear HO HBE hb3 G1 G2
          generalize (wr.drewN q3).drewN q4 = w5 at *
          unfold Byt at hkb
          by_cases k1 : kd < 1
          · have kd1 : decide (kd < 1) = true := decide_eq_true k1
            have hv : ([], (30 : Int)) = (r1, r2) := by rw [← HR.out, if_pos (.inl k1)]
            cases hv
            clear k1
            go_wp2_with fail
            go_ret2
            exact ⟨_, rfl, Kd.R_nil _ _ _ _ _, hb4.out⟩
          · have kd1 : decide (kd < 1) = false := decide_eq_false k1
            by_cases k4 : 4 < kd
            · have kd4 : decide (4 < kd) = true := decide_eq_true k4
              have hv : ([], (30 : Int)) = (r1, r2) := by rw [← HR.out, if_pos (.inr (.inl k4))]
              cases hv
              clear k1 k4
              go_wp2_with fail
              go_ret2
              exact ⟨_, rfl, Kd.R_nil _ _ _ _ _, hb4.out⟩
            · have kd4 : decide (4 < kd) = false := decide_eq_false k4
              by_cases k62' : 4611686018427387904 < key
              · have kdk : decide (4611686018427387904 < key) = true := decide_eq_true k62'
                have hv : ([], (30 : Int)) = (r1, r2) := by rw [← HR.out, if_pos (.inr (.inr k62'))]
                cases hv
                clear k1 k4 k62'
                go_wp2_with fail
                go_ret2
                exact ⟨_, rfl, Kd.R_nil _ _ _ _ _, hb4.out⟩
              · have kdk : decide (4611686018427387904 < key) = false := decide_eq_false k62'
                have hv : rdL m (s.drop 17) (acc ++ [⟨kd, key, val⟩]) = (r1, r2) := by rw [← HR.out, if_neg (by omega)]
                have HV := Lib.hid hv
                have wk : wrap64 kd = kd := by unfold wrap64; omega
                have wy : wrap64 key = key := by unfold wrap64; omega
                have wk2 : IntKind.i64.wrap kd = kd := (i64_w _).trans wk
                have wy2 : IntKind.i64.wrap key = key := (i64_w _).trans wy
                have hal : acc.length < 5864062014805 := by have := HMA.out; have := HM48.out; omega
                have HAL := Lib.hid hal
                clear k1 k4 k62' hv hal
                go_wp2_with (first | ((with_reducible refine gate_builtin (b := .append) (xs := #[.tmp 47, .tmp 56]) rfl ?_); at_builtin; refine Kd.R_append k62 (w0 := w) w.heap.size rfl (.tmp 47) (.tmp 56) 22 62 (.agg #[(.int .i64 0), (.int .i64 0), (.int .u64 0)]) 24 rfl Try.underlying22 info62 rfl (by decide) (by omega) u4 acc (⟨kd, key, val⟩ : S62) [.int .i64 kd, .int .i64 key, .int .u64 val] (fun _ => True) (fun _ => False) rfl rfl ?aP (fun _ hk => hk.elim) ?aF ?aO ?aB ?aS ?aL ?_; (case aP => exact k62_mkM _ _ _ (⟨kd, key, val⟩ : S62)); (case aB => exact (by repeat (first | (with_reducible first | exact hb4.out | apply below_alloc | apply pw_below_drewN | apply below_drew1) | exact hb4.out))); (case aF => exact (fun _ _ => trivial)); (case aO => exact (by (with_reducible repeat (first | apply Kd.R_alloc | apply Kd.R_drewN | apply Kd.R_drew)); exact HO4.out)); (case aS => exact (below_size (by repeat (first | (with_reducible first | exact hb4.out | apply below_alloc | apply pw_below_drewN | apply below_drew1) | exact hb4.out)))); (case aL => have := HAL.out; omega); intro v57 w57 ho hb hg hat; have HO5 := Lib.hid ho; have HB5 := Lib.hid hb; clear ho hb hg hat))
                go_roundg (m + 1)
                case measure => rw [HG.out]; omega
                case rel => exact ⟨m, M - 17, cc - 17, s.drop 17, acc ++ [⟨kd, key, val⟩], A3, rfl, by have := HM.out; omega, HL3.out, by have := HN3.out; have := HL3.out; omega, rfl, by have := HMA.out; simp only [List.length_append, List.length_cons, List.length_nil]; omega, HV.out, HB.out.drop 17, HC3.out, HO5.out, HB5.out⟩
  · have hd : (((n : Int) % 17) != 0) = true := by rw [bne_iff_ne]; omega
    go_wp2
    go_ret2
    have hv : readC b = ([], 11) := by unfold readC; rw [hn, if_pos h17]
    exact ⟨_, by (first | (rw [hv]; done) | (rw [hv]; rfl)), by rw [hv]; exact Kd.R_nil _ _ _ _ _, Below.refl _ _⟩
end Go.Proofs.Ytdejbinmnoabeaa.P
namespace Go.Proofs.Ytdejbinmnoabeaa.P
open Go.RowKit Go.Proofs.YtdejbinmnoabeaaW.PrintWords Go.Proofs.YtdejbinmnoabeaaW.PrintLast Go.Proofs.YtdejbinmnoabeaaW.PrintMore
set_option linter.unusedVariables false
set_option linter.unusedSimpArgs false
def okC (c : S62) : Bool := decide (1 ≤ c.f0) && decide (c.f0 ≤ 4) && decide (0 ≤ c.f1)
def encC (c : S62) : List Int := [c.f0] ++ be8 c.f1 ++ be8 c.f2
structure U62 (c : S62) : Prop where
  a0 : -9223372036854775808 ≤ c.f1
  a1 : c.f1 < 9223372036854775808
  b0 : 0 ≤ c.f2
  b1 : c.f2 < 18446744073709551616
def writeC (l : List S62) : List Int × Int := if 48 < l.length then ([], 2) else if l.all okC = true then (l.flatMap encC, 0) else ([], 30)
theorem be8_len (x : Int) : (be8 x).length = 8 := rfl
theorem w48 {x : Int} (h0 : 0 ≤ x) (h1 : x ≤ 1000000) : wrap64 x = x := w64 h0 h1
theorem rdT {l : List S62} {i : Nat} {c : S62} (h : l[i]? = some c) : rd_T62 l (i : Int) = c := by
  unfold rd_T62
  rw [Int.toNat_natCast, List.getD_eq_getElem?_getD, h]
  rfl
theorem okC_parts {c : S62} (h : okC c = true) : 1 ≤ c.f0 ∧ c.f0 ≤ 4 ∧ 0 ≤ c.f1 := by
  unfold okC at h
  simp only [Bool.and_eq_true, decide_eq_true_eq] at h
  exact ⟨h.1.1, h.1.2, h.2⟩
theorem okC_not {c : S62} (h : okC c = false) : c.f0 < 1 ∨ 4 < c.f0 ∨ c.f1 < 0 := by
  by_cases q0 : c.f0 < 1
  · exact .inl q0
  by_cases q02 : 4 < c.f0
  · exact .inr (.inl q02)
  by_cases q03 : c.f1 < 0
  · exact .inr (.inr q03)
  have q : 1 ≤ c.f0 := by omega
  have q2 : c.f0 ≤ 4 := by omega
  have q3 : 0 ≤ c.f1 := by omega
  unfold okC at h
  rw [decide_eq_true q, decide_eq_true q2, decide_eq_true q3] at h
  cases h
theorem oput {x : Int} (h0 : 0 ≤ x) (h1 : x < 18446744073709551616) : oct_Put.f x 8 = some (be8 x, 0) := by
  unfold oct_Put.f
  rw [if_pos ⟨rfl, h0, h1⟩]
theorem w_ok (k : Nat) (x4 : List Int) (l : List S62) (i : Nat) (c : S62) (hc : l[i]? = some c) (ho : okC c = true) (hu : U62 c) (hx : x4.length ≤ 1000) (hl : l.length ≤ 48) :
    res_Write.l0 (k + 1 + 1) x4 l (l.length : Int) (i : Int) = res_Write.l0 k (x4 ++ encC c) l (l.length : Int) ((i + 1 : Nat) : Int) := by
  have hi : i < l.length := (List.getElem?_eq_some_iff.1 hc).1
  obtain ⟨o1, o2, o3⟩ := okC_parts ho
  have hw : IntKind.u64.wrap c.f1 = c.f1 := by rw [IntKind.wrap_u64]; have := hu.a1; omega
  rw [res_Write.l0, if_pos (by omega), if_pos (by omega), if_pos (by omega), rdT hc, if_neg (by omega), if_neg (by omega), decide_eq_false (by omega), res_Write.j1, if_neg (by simp), hw, oput o3 (by have := hu.a1; omega), Option.bind_some, oput hu.b0 hu.b1, Option.bind_some, if_pos (by omega)]
  simp only [Option.bind_some, List.length_append, List.length_cons, List.length_nil, be8_len]
  rw [if_pos (by omega), if_pos (by omega), w48 (by omega) (by omega), show c.f0 % 256 = c.f0 by omega]
  unfold encC
  rw [List.append_assoc, List.append_assoc, List.append_assoc]
  rfl
theorem w_bad (k : Nat) (x4 : List Int) (l : List S62) (i : Nat) (c : S62) (hc : l[i]? = some c) (ho : okC c = false) :
    res_Write.l0 (k + 1 + 1) x4 l (l.length : Int) (i : Int) = some ([], 30) := by
  have hi : i < l.length := (List.getElem?_eq_some_iff.1 hc).1
  rw [res_Write.l0, if_pos (by omega), if_pos (by omega), if_pos (by omega), rdT hc]
  by_cases q1 : c.f0 < 1
  · rw [if_pos q1, res_Write.j1, if_pos rfl]
  · rw [if_neg q1]
    by_cases q2 : c.f0 > 4
    · rw [if_pos q2, res_Write.j1, if_pos rfl]
    · rw [if_neg q2, res_Write.j1, if_pos (by have := okC_not ho; rw [decide_eq_true_eq]; omega)]
theorem v_ok (k : Nat) (x4 : List Int) (l : List S62) (i : Nat) (c : S62) (hc : l[i]? = some c) (ho : okC c = true) (hu : U62 c) (hx : x4.length ≤ 1000) (hl : l.length ≤ 48) :
    trothref15_Write.l0 (k + 19 + 1 + 1) l x4 (i : Int) = trothref15_Write.l0 (k + 19) l (x4 ++ encC c) ((i + 1 : Nat) : Int) := by
  have hi : i < l.length := (List.getElem?_eq_some_iff.1 hc).1
  obtain ⟨o1, o2, o3⟩ := okC_parts ho
  have hw : IntKind.u64.wrap c.f1 = c.f1 := by rw [IntKind.wrap_u64]; have := hu.a1; omega
  rw [trothref15_Write.l0, if_pos (by omega), if_pos (by omega), rdT hc, if_neg (by omega), if_neg (by omega), decide_eq_false (by omega), trothref15_Write.j1, if_neg (by simp), hw, rput8 _ o3 (by have := hu.a1; omega), Option.bind_some, rput8 _ hu.b0 hu.b1, Option.bind_some, if_pos (by omega)]
  simp only [Option.bind_some, List.length_append, List.length_cons, List.length_nil, be8_len]
  rw [if_pos (by omega), if_pos (by omega), w48 (by omega) (by omega), show c.f0 % 256 = c.f0 by omega]
  unfold encC
  rw [List.append_assoc, List.append_assoc, List.append_assoc]
  rfl
theorem v_bad (k : Nat) (x4 : List Int) (l : List S62) (i : Nat) (c : S62) (hc : l[i]? = some c) (ho : okC c = false) :
    trothref15_Write.l0 (k + 1 + 1) l x4 (i : Int) = some ([], 30) := by
  have hi : i < l.length := (List.getElem?_eq_some_iff.1 hc).1
  rw [trothref15_Write.l0, if_pos (by omega), if_pos (by omega), rdT hc]
  by_cases q1 : c.f0 < 1
  · rw [if_pos q1, trothref15_Write.j1, if_pos rfl]
  · rw [if_neg q1]
    by_cases q2 : c.f0 > 4
    · rw [if_pos q2, trothref15_Write.j1, if_pos rfl]
    · rw [if_neg q2, trothref15_Write.j1, if_pos (by have := okC_not ho; rw [decide_eq_true_eq]; omega)]
theorem encC_len (c : S62) : (encC c).length = 17 := rfl
def wEnd (x4 : List Int) (r : List S62) : List Int × Int := if r.all okC = true then (x4 ++ r.flatMap encC, 0) else ([], 30)
theorem wEnd_nil (x4 : List Int) : wEnd x4 [] = (x4, 0) := by simp [wEnd]
theorem wEnd_ok (x4 : List Int) (c : S62) (r : List S62) (h : okC c = true) : wEnd x4 (c :: r) = wEnd (x4 ++ encC c) r := by
  unfold wEnd
  rw [List.all_cons, h, Bool.true_and, List.flatMap_cons, List.append_assoc]
theorem wEnd_bad (x4 : List Int) (c : S62) (r : List S62) (h : okC c = false) : wEnd x4 (c :: r) = ([], 30) := by
  unfold wEnd
  rw [List.all_cons, h, Bool.false_and, if_neg (by simp)]
theorem w_all (l : List S62) (hl : l.length ≤ 48) (hu : ∀ c ∈ l, U62 c) : ∀ (d : Nat) (m : Nat) (x4 : List Int) (i : Nat), i + d = l.length → x4.length = 17 * i → res_Write.l0 (m + 1 + 2 * d) x4 l (l.length : Int) (i : Int) = some (wEnd x4 (l.drop i))
  | 0, m, x4, i, hi, hx => by
    rw [show m + 1 + 2 * 0 = m + 1 by omega, res_Write.l0, if_neg (by omega), List.drop_eq_nil_of_le (by omega), wEnd_nil]
  | d + 1, m, x4, i, hi, hx => by
    have hlt : i < l.length := by omega
    have hc : l[i]? = some l[i] := List.getElem?_eq_getElem hlt
    rw [show m + 1 + 2 * (d + 1) = m + 1 + 2 * d + 1 + 1 by omega, List.drop_eq_getElem_cons hlt]
    cases ho : okC l[i]
    · rw [w_bad _ _ _ _ _ hc ho, wEnd_bad _ _ _ ho]
    · rw [w_ok _ _ _ _ _ hc ho (hu _ (List.getElem_mem _)) (by omega) hl, wEnd_ok _ _ _ ho]
      exact w_all l hl hu d m _ (i + 1) (by omega) (by rw [List.length_append, encC_len]; omega)
theorem v_all (l : List S62) (hl : l.length ≤ 48) (hu : ∀ c ∈ l, U62 c) : ∀ (d : Nat) (m : Nat) (x4 : List Int) (i : Nat), i + d = l.length → x4.length = 17 * i → trothref15_Write.l0 (m + 1 + 2 * d + 19) l x4 (i : Int) = some (wEnd x4 (l.drop i))
  | 0, m, x4, i, hi, hx => by
    rw [show m + 1 + 2 * 0 + 19 = m + 19 + 1 by omega, trothref15_Write.l0, if_neg (by omega), List.drop_eq_nil_of_le (by omega), wEnd_nil]
  | d + 1, m, x4, i, hi, hx => by
    have hlt : i < l.length := by omega
    have hc : l[i]? = some l[i] := List.getElem?_eq_getElem hlt
    rw [show m + 1 + 2 * (d + 1) + 19 = m + 1 + 2 * d + 19 + 1 + 1 by omega, List.drop_eq_getElem_cons hlt]
    cases ho : okC l[i]
    · rw [v_bad _ _ _ _ _ hc ho, wEnd_bad _ _ _ ho]
    · rw [v_ok _ _ _ _ _ hc ho (hu _ (List.getElem_mem _)) (by omega) hl, wEnd_ok _ _ _ ho]
      exact v_all l hl hu d m _ (i + 1) (by omega) (by rw [List.length_append, encC_len]; omega)
theorem write_f (l : List S62) (hu : ∀ c ∈ l, U62 c) : ∃ k, res_Write.f k l = some (writeC l) := by
  refine ⟨0 + 1 + 2 * l.length, ?_⟩
  unfold res_Write.f writeC
  by_cases h : 48 < l.length
  · rw [if_pos (by omega), if_pos h]
  · rw [if_neg (by omega), if_neg h]
    refine (w_all l (by omega) hu l.length 0 [] 0 (by omega) rfl).trans ?_
    unfold wEnd
    rfl
theorem rwrite_f (l : List S62) (hu : ∀ c ∈ l, U62 c) : ∃ k, trothref15_Write.f k l = some (writeC l) := by
  refine ⟨0 + 1 + 2 * l.length + 19, ?_⟩
  unfold trothref15_Write.f writeC
  by_cases h : 48 < l.length
  · rw [if_pos (by omega), if_pos h]
  · rw [if_neg (by omega), if_neg h]
    refine (v_all l (by omega) hu l.length 0 [] 0 (by omega) rfl).trans ?_
    unfold wEnd
    rfl
theorem rd_drop (b : List Int) (i : Nat) : rd b (i : Int) = rd (b.drop i) 0 := by
  unfold rd
  rw [Int.toNat_natCast, List.getD_eq_getElem?_getD, List.getD_eq_getElem?_getD, List.getElem?_drop]
  rfl
theorem mid8 (b : List Int) (i j : Nat) (hj : i ≤ j) : (b.take (j + 8)).drop j = ((b.drop i).drop (j - i)).take 8 := by
  rw [List.drop_drop, List.drop_take, show j + 8 - j = 8 by omega, show i + (j - i) = j by omega]
theorem rd_all (b : List Int) (hb : Bytes b) (hl : b.length ≤ 816) : ∀ (m : Nat) (k : Nat) (acc : List S62) (i : Nat), i + 17 * m = b.length → acc.length + m ≤ 48 → trothref15_Read.l0 (k + 10 + 1 + m) b acc (i : Int) = some (rdL m (b.drop i) acc)
  | 0, k, acc, i, hi, ha => by
    rw [show k + 10 + 1 + 0 = k + 10 + 1 by omega, trothref15_Read.l0, if_neg (by omega)]
    rfl
  | m + 1, k, acc, i, hi, ha => by
    have e1 : wrap64 ((i : Int) + 1) = ((i + 1 : Nat) : Int) := by rw [w48 (by omega) (by omega)]; omega
    have e9 : wrap64 ((i : Int) + 9) = ((i + 1 + 8 : Nat) : Int) := by rw [w48 (by omega) (by omega)]; omega
    have e17 : wrap64 ((i : Int) + 17) = ((i + 1 + 8 + 8 : Nat) : Int) := by rw [w48 (by omega) (by omega)]; omega
    have hB := hb.drop i
    have l1 : (((b.drop i).drop 1).take 8).length = 8 := by simp only [List.length_take, List.length_drop]; omega
    have l2 : (((b.drop i).drop 9).take 8).length = 8 := by simp only [List.length_take, List.length_drop]; omega
    have g1 := gN_get l1 ((hB.drop 1).take 8) (k + 1 + m)
    have g2 := gN_get l2 ((hB.drop 9).take 8) (k + 1 + m)
    have m1 : (b.take (i + 1 + 8)).drop (i + 1) = ((b.drop i).drop 1).take 8 := by rw [mid8 b i (i + 1) (by omega), show i + 1 - i = 1 by omega]
    have m2 : (b.take (i + 1 + 8 + 8)).drop (i + 1 + 8) = ((b.drop i).drop 9).take 8 := by rw [mid8 b i (i + 1 + 8) (by omega), show i + 1 + 8 - i = 9 by omega]
    have hkb : Byt (rd (b.drop i) 0) := by
      rw [← rd_drop]
      unfold rd
      rw [Int.toNat_natCast, List.getD_eq_getElem?_getD, List.getElem?_eq_getElem (show i < b.length by omega)]
      exact hb _ (List.getElem_mem _)
    unfold Byt at hkb
    rw [show k + 10 + 1 + (m + 1) = k + 1 + m + 10 + 1 by omega, trothref15_Read.l0, if_pos (by omega), e1, e9, e17, if_pos (by omega), if_pos (by omega), if_pos (by omega)]
    simp only [Int.toNat_natCast]
    rw [m1, m2, g1.2.1, Option.bind_some, if_pos (by omega), if_pos (by omega), if_pos (by omega), g2.2.1, Option.bind_some, if_pos (by omega), rd_drop, rdL]
    generalize gN (((b.drop i).drop 1).take 8) = key at *
    generalize gN (((b.drop i).drop 9).take 8) = val at *
    generalize hkd : rd (b.drop i) 0 = kd at *
    by_cases q1 : kd = 0
    · rw [if_pos q1, if_pos (by omega)]
    · rw [if_neg q1]
      by_cases q2 : kd > 4
      · rw [if_pos q2, if_pos (by omega)]
      · rw [if_neg q2]
        by_cases q3 : key > 4611686018427387904
        · rw [if_pos q3, if_pos (by omega)]
        · rw [if_neg q3, if_pos (by omega), if_neg (by omega), show wrap64 kd = kd by unfold wrap64; omega, show wrap64 key = key by have := g1.2.2; unfold wrap64; omega]
          have := rd_all b hb hl m k (acc ++ [⟨kd, key, val⟩]) (i + 1 + 8 + 8) (by omega) (by rw [List.length_append]; simp only [List.length_cons, List.length_nil]; omega)
          rw [show k + 1 + m + 10 = k + 10 + 1 + m by omega, this, List.drop_drop]
theorem rread_f (b : List Int) (hb : Bytes b) (hl : b.length ≤ 4000) : ∃ k, trothref15_Read.f k b = some (readC b) := by
  refine ⟨0 + 10 + 1 + b.length / 17, ?_⟩
  unfold trothref15_Read.f readC
  by_cases h : b.length % 17 ≠ 0
  · rw [if_pos (by omega), if_pos h]
  · rw [if_neg (by omega), if_neg h, w48 (by omega) (by omega)]
    by_cases h2 : 816 < b.length
    · rw [if_pos (by omega), if_pos h2]
    · rw [if_neg (by omega), if_neg h2]
      exact rd_all b hb (by omega) (b.length / 17) 0 [] 0 (by omega) (by simp only [List.length_nil]; omega)
end Go.Proofs.Ytdejbinmnoabeaa.P
namespace Go.Proofs.Ytdejbinmnoabeaa.P
open Go.RowKit Go.Proofs.YtdejbinmnoabeaaW.PrintWords Go.Proofs.YtdejbinmnoabeaaW.PrintLast Go.Proofs.YtdejbinmnoabeaaW.PrintMore
set_option linter.unusedVariables false
set_option linter.unusedSimpArgs false
/-- A row of bytes that came in, in the print's words. -/
theorem bytes_of {w : World} {B : Nat} {A : Option Addr} {l : List Int} (h : Go.Mine.RowR (fun _ y cs => cs = [Value.int .u8 y] ∧ (Lit.int .u8 y).wf = true) w B 1 A l) (hz : l.length ≤ 9223372036854775807) :
    Kd.C (Kd.int .u8) w A l.length l ∧ Bytes l := by
  constructor
  · refine ⟨rfl, hz, fun hp => ?_⟩
    obtain ⟨b, off, cs, e, _⟩ := h 0 _ (List.getElem?_eq_getElem hp)
    refine ⟨⟨b, off, none⟩, e, fun j p hj => ?_⟩
    obtain ⟨b', off', cs', e', _, ⟨hc, _⟩, _, hcell⟩ := h j p hj
    rw [e] at e'
    cases e'
    refine ⟨[.int .u8 p], rfl, rfl, fun i u hu => ?_⟩
    have := hcell i u (by rw [hc]; exact hu)
    have ea : ∀ n, (⟨b, off, none⟩ : Addr).add n = ⟨b, off + n, none⟩ := by
      intro n
      unfold Addr.add
      by_cases h0 : n = 0
      · simp [h0]
      · simp [h0]
    change w.cell? ((⟨b, off, none⟩ : Addr).add (j * 1 + i)) = some u
    rw [ea, ← Nat.add_assoc]
    exact this
  · intro x hx
    obtain ⟨i, hi, rfl⟩ := List.mem_iff_getElem.1 hx
    obtain ⟨b, off, cs, e, _, ⟨_, hw⟩, _⟩ := h i _ (List.getElem?_eq_getElem hi)
    have := bounds_u8 hw
    exact ⟨by omega, by omega⟩
def encS (y : S62) : List Value := [.int .i64 y.f0, .int .i64 y.f1, .int .u64 y.f2]
/-- A row of changes that came in, in the print's words. -/
theorem chs_of {w : World} {B : Nat} {A : Option Addr} {l : List S62} (h : Go.Mine.RowR (fun _ y cs => cs = encS y ∧ U62 y) w B 3 A l) (hz : l.length ≤ 9223372036854775807) :
    Kd.C k62 w A l.length l ∧ ∀ c ∈ l, U62 c := by
  constructor
  · refine ⟨rfl, hz, fun hp => ?_⟩
    obtain ⟨b, off, cs, e, _⟩ := h 0 _ (List.getElem?_eq_getElem hp)
    refine ⟨⟨b, off, none⟩, e, fun j p hj => ?_⟩
    obtain ⟨b', off', cs', e', _, ⟨hc, _⟩, _, hcell⟩ := h j p hj
    rw [e] at e'
    cases e'
    refine ⟨encS p, rfl, k62_mk _ _, fun i u hu => ?_⟩
    have := hcell i u (by rw [hc]; exact hu)
    have ea : ∀ n, (⟨b, off, none⟩ : Addr).add n = ⟨b, off + n, none⟩ := by
      intro n
      unfold Addr.add
      by_cases h0 : n = 0
      · simp [h0]
      · simp [h0]
    change w.cell? ((⟨b, off, none⟩ : Addr).add (j * 3 + i)) = some u
    rw [ea, ← Nat.add_assoc]
    exact this
  · intro x hx
    obtain ⟨i, hi, rfl⟩ := List.mem_iff_getElem.1 hx
    obtain ⟨b, off, cs, e, _, ⟨_, hw⟩, _⟩ := h i _ (List.getElem?_eq_getElem hi)
    exact hw
section
variable {H : Type} {enc : TypeId × Value → H} {w : World} {base : Nat} {spare : Nat → Bool} {held : Bool}
theorem u8_open (n : Nat) (cs : List Value) (z : DataW H × List MemPlace) (h : DataW.trod enc Try.prog w base spare held n 5 cs = some z) : ∃ y : Int, cs = [.int .u8 y] ∧ (Lit.int .u8 y).wf = true := by
  obtain ⟨x0, e0, _, hw⟩ := DataW.trod_int Try.underlying5 h
  exact ⟨x0, e0, hw⟩
set_option maxRecDepth 100000 in
theorem chs_open (n : Nat) (cs : List Value) (z : DataW H × List MemPlace) (h : DataW.trod enc Try.prog w base spare held n 62 cs = some z) : ∃ y : S62, cs = encS y ∧ U62 y := by
  obtain ⟨xs, m, _, _, hl, hlen, hx⟩ := DataW.trod_struct Try.underlying62 h
  have hc : Try.prog.cellsOf 62 = 3 := by kernel_rfl
  have c3 : Try.prog.cellsOf 3 = 1 := by kernel_rfl
  have c26 : Try.prog.cellsOf 32 = 1 := by kernel_rfl
  rw [hc] at hl
  obtain ⟨v0, v1, v2, rfl⟩ : ∃ a b c, cs = [a, b, c] := by
    match cs, hl with
    | [a, b, c], _ => exact ⟨a, b, c, rfl⟩
  obtain ⟨y0, y1, y2, rfl⟩ : ∃ a b c, xs = [a, b, c] := by
    match xs, hlen with
    | [a, b, c], _ => exact ⟨a, b, c, rfl⟩
  have h0 : DataW.trod enc Try.prog w base spare held m 3 (([v0, v1, v2].drop 0).take (Try.prog.cellsOf 3)) = some y0 := hx 0 _ rfl
  have h1 : DataW.trod enc Try.prog w base spare held m 3 (([v0, v1, v2].drop 1).take (Try.prog.cellsOf 3)) = some y1 := hx 1 _ rfl
  have h2 : DataW.trod enc Try.prog w base spare held m 32 (([v0, v1, v2].drop 2).take (Try.prog.cellsOf 32)) = some y2 := hx 2 _ rfl
  simp only [c3, c26, List.drop_zero, List.take_succ_cons, List.take_zero, List.drop_succ_cons] at h0 h1 h2
  obtain ⟨x0, e0, _, _⟩ := DataW.trod_int Try.underlying3 h0
  obtain ⟨x1, e1, _, hw1⟩ := DataW.trod_int Try.underlying3 h1
  obtain ⟨x2, e2, _, hw2⟩ := DataW.trod_int Try.underlying32 h2
  simp only [List.cons.injEq, and_true] at e0 e1 e2
  subst e0 e1 e2
  have b1 := bounds_i64 hw1
  have b2 := bounds_u64 hw2
  exact ⟨⟨x0, x1, x2⟩, rfl, ⟨b1.1, by show x1 < _; omega, b2.1, by show x2 < _; omega⟩⟩
end
def toCh (s : S62) : Go.Mine.Ch := ⟨s.f0, s.f1, s.f2⟩
/-- A row of the print as a row of changes. -/
theorem ch_of_R {w : World} {base : Nat} {v : Value} {l : List S62} (h : Kd.R k62 62 w base (fun _ => True) v l) : ∃ A c, v = .slice A (l.map toCh).length c ∧ ChAt w w.heap.size A (l.map toCh) := by
  obtain ⟨A, c, rfl, hlc, hC⟩ := Kd.R_reads h
  refine ⟨A, c, by rw [List.length_map], ?_⟩
  intro i x hx
  rw [List.getElem?_map] at hx
  obtain ⟨s, hs, rfl⟩ := Option.map_eq_some_iff.1 hx
  have hi : i < l.length := (List.getElem?_eq_some_iff.1 hs).1
  obtain ⟨g, cp, hv, _⟩ := Kd.R_form h (by omega)
  have hAg : A = some ⟨g, 0, none⟩ := by injection hv
  obtain ⟨ad, e, hc⟩ := hC.2.2 (by omega)
  obtain ⟨c', _, hK, hcell⟩ := hc i s hs
  have hk := k62_open hK
  subst hk
  rw [hAg] at e
  cases e
  have ea : ∀ n, (⟨g, 0, none⟩ : Addr).add n = ⟨g, 0 + n, none⟩ := by
    intro n
    unfold Addr.add
    by_cases h0 : n = 0
    · simp [h0]
    · simp [h0]
  refine ⟨g, 0, hAg, ?_, fun j v hv => ?_⟩
  · have := hcell 0 _ rfl
    rw [ea] at this
    exact World.block_lt_of_cell? w _ this
  · have := hcell j v hv
    change w.cell? ((⟨g, 0, none⟩ : Addr).add (i * 3 + j)) = some v at this
    rw [ea, ← Nat.add_assoc] at this
    exact this
theorem ch_below {w w' : World} {A : Option Addr} {l : List Go.Mine.Ch} (h : ChAt w w.heap.size A l) (hb : Below w.heap.size w w') : ChAt w' w'.heap.size A l := Q.RowAt.up (Q.RowAt.below h hb) hb.size
theorem read_short (b : List Int) (hl : b.length ≤ 4000) : (readC b).1.length ≤ 1000 := by
  have H : ∀ (m : Nat) (s : List Int) (acc : List S62), acc.length + m ≤ 48 → (rdL m s acc).1.length ≤ 48 := by
    intro m
    induction m with
    | zero => intro s acc h; show acc.length ≤ 48; omega
    | succ m ih =>
      intro s acc h
      rw [rdL]
      split
      · exact Nat.zero_le _
      · exact ih _ _ (by rw [List.length_append]; simp only [List.length_cons, List.length_nil]; omega)
  unfold readC
  split
  · exact Nat.zero_le _
  · split
    · exact Nat.zero_le _
    · have := H (b.length / 17) b [] (by simp only [List.length_nil]; omega)
      omega
end Go.Proofs.Ytdejbinmnoabeaa.P
namespace Go.Proofs.Ytdejbinmnoabeaa.P
open Go.RowKit Go.Proofs.YtdejbinmnoabeaaW.PrintWords Go.Proofs.YtdejbinmnoabeaaW.PrintLast Go.Proofs.YtdejbinmnoabeaaW.PrintMore
set_option linter.unusedVariables false
set_option linter.unusedSimpArgs false
theorem bel_tr' {w w1 w2 : World} (h : Below w.heap.size w w1) (k : Below w1.heap.size w1 w2) : Below w.heap.size w w2 := h.trans (k.mono h.size)
set_option maxRecDepth 100000 in
set_option maxHeartbeats 8000000 in
theorem writes_any (A0 : Option Addr) (l : List S62) (c0 : Nat) (A1 : Option Addr) (b : List Int) (c1 : Nat) (w : World) (h0 : Go.Mine.RowR (fun _ y cs => cs = encS y ∧ U62 y) w w.heap.size 3 A0 l) (h1 : Go.Mine.RowR (fun _ y cs => cs = [Value.int .u8 y] ∧ (Lit.int .u8 y).wf = true) w w.heap.size 1 A1 b) (hc0 : l.length ≤ c0) (hc1 : b.length ≤ c1) :
    Calls Try.prog 3 #[.slice A0 l.length c0, .slice A1 b.length c1] w fun e w' => e = .returned (.bool true) ∧ Below w.heap.size w w' := by
  have H0 := Lib.hid h0
  have H1 := Lib.hid h1
  have HC0 := Lib.hid hc0
  have HC1 := Lib.hid hc1
  clear h0 h1 hc0 hc1
  go_enter Try.func3, Try.ntmps3
  by_cases k200 : 200 < l.length
  · have d1 : decide ((200 : Int) < l.length) = true := decide_eq_true (by omega)
    clear k200
    go_wp2_with fail
    refine (alive_any _).mono ?_
    rintro e w2 ⟨rfl, f2⟩
    go_wp2_with fail
    go_ret
    exact ⟨rfl, f2⟩
  · have d1 : decide ((200 : Int) < l.length) = false := decide_eq_false (by omega)
    by_cases k4000 : 4000 < b.length
    · have d2 : decide ((4000 : Int) < b.length) = true := decide_eq_true (by omega)
      clear k200 k4000
      go_wp2_with fail
      refine (alive_any _).mono ?_
      rintro e w2 ⟨rfl, f2⟩
      go_wp2_with fail
      go_ret
      exact ⟨rfl, f2⟩
    · have d2 : decide ((4000 : Int) < b.length) = false := decide_eq_false (by omega)
      obtain ⟨C0, U0⟩ := chs_of H0.out (by omega)
      obtain ⟨C1, B1⟩ := bytes_of H1.out (by omega)
      obtain ⟨k9, e9⟩ := write_f l U0
      obtain ⟨k10, e10⟩ := rwrite_f l U0
      obtain ⟨k12, e12⟩ := rread_f b B1 (by omega)
      have hrs := read_short b (by omega)
      obtain ⟨⟨x, xe⟩, hx⟩ : ∃ p, writeC l = p := ⟨_, rfl⟩
      have K11 := fun w1 (hb : Below w.heap.size w w1) => read_any A1 c1 b w1 (Kd.C_below C1 hb) HC1.out B1
      obtain ⟨⟨y, ye⟩, hy⟩ : ∃ p, readC b = p := ⟨_, rfl⟩
      rw [hx] at e9 e10
      rw [hy] at e12 hrs K11
      have K9 := Lib.hid (fun w1 (hb : Below w.heap.size w w1) => res_Write.calls k9 A0 c0 l x xe w1 (Kd.C_below C0 hb) HC0.out e9)
      have K10 := Lib.hid (fun w1 (hb : Below w.heap.size w w1) => trothref15_Write.calls k10 A0 c0 l x xe w1 (Kd.C_below C0 hb) HC0.out e10)
      have K12 := Lib.hid (fun w1 (hb : Below w.heap.size w w1) => trothref15_Read.calls k12 A1 c1 b y ye w1 (Kd.C_below C1 hb) HC1.out e12)
      have K11 := Lib.hid K11
      have HRS := Lib.hid hrs
      clear C0 C1 e9 e10 e12 hrs k200 k4000 hx hy U0 B1
      go_wp2_with fail
      refine (K9.out _ (Below.refl _ _)).mono ?_
      rintro e w1 ⟨v1, rfl, r1, f1⟩
      obtain ⟨S1, q1, rfl⟩ := Kd.R_slice r1
      have R1 := Lib.hid (Kd.R_reads' r1).2.2
      have F1 := Lib.hid f1
      clear r1 f1
      go_wp2_with fail
      refine (K10.out _ F1.out).mono ?_
      rintro e w2 ⟨v2, rfl, r2, f2⟩
      obtain ⟨S2, q2, rfl⟩ := Kd.R_slice r2
      have R1 := Lib.hid (Kd.C_below R1.out f2)
      have R2 := Lib.hid (Kd.R_reads' r2).2.2
      have F2 := Lib.hid (bel_tr' F1.out f2)
      clear r2 f2 F1
      go_wp2_with fail
      refine (K11.out _ F2.out).mono ?_
      rintro e w3 ⟨v3, rfl, r3, f3⟩
      have R1 := Lib.hid (Kd.C_below R1.out f3)
      have R2 := Lib.hid (Kd.C_below R2.out f3)
      obtain ⟨S3, q3, rfl, h3⟩ := ch_of_R r3
      have R3 := Lib.hid h3
      have F3 := Lib.hid (bel_tr' F2.out f3)
      clear r3 f3 F2 h3
      go_wp2_with fail
      refine (K12.out _ F3.out).mono ?_
      rintro e w4 ⟨v4, rfl, r4, f4⟩
      have R1 := Lib.hid (Kd.C_below R1.out f4)
      have R2 := Lib.hid (Kd.C_below R2.out f4)
      have R3 := Lib.hid (ch_below R3.out f4)
      obtain ⟨S4, q4, rfl, h4⟩ := ch_of_R r4
      have R4 := Lib.hid h4
      have F4 := Lib.hid (bel_tr' F3.out f4)
      clear r4 f4 F3 h4
      go_wp2_with fail
      refine (alive_any _).mono ?_
      rintro e w5 ⟨rfl, f5⟩
      have hcv1 := Kd.C_string (P := Try.prog) (A := S1) (c := q1) Try.underlying23 Try.underlying5 Try.underlying9 (Kd.C_below R1.out f5)
      have hcv2 := Kd.C_string (P := Try.prog) (A := S2) (c := q2) Try.underlying23 Try.underlying5 Try.underlying9 (Kd.C_below R2.out f5)
      have R3 := Lib.hid (ch_below R3.out f5)
      have R4 := Lib.hid (ch_below R4.out f5)
      have F5 := Lib.hid (bel_tr' F4.out f5)
      generalize strOfNums x = st at *
      have K13 := Q.samech_any S3 S4 (y.map toCh) q3 q4 w5.heap.size w5 R3.out R4.out (by have := HRS.out; rw [List.length_map]; omega)
      rw [List.length_map] at K13
      have HK13 := Lib.hid K13
      clear K13
      have he : (xe == xe) = true := by simp
      have hye : (ye == ye) = true := by simp
      clear F4 f5
      go_wp2_with fail
      refine HK13.out.mono ?_
      rintro e w6 ⟨rfl, q6, rfl⟩
      go_wp2_with fail
      go_ret
      exact ⟨rfl, bel_tr' F5.out (bN _ _)⟩
end Go.Proofs.Ytdejbinmnoabeaa.P
