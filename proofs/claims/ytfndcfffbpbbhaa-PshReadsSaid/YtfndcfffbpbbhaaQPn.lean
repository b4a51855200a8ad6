/- PshReads, plainly: the package reads as the reference. -/
import Derived.Test.YtfndcfffbpbbhaaQPl
import Derived.Test.YtfndcfffbpbbhaaQPk
import Derived.Test.YtfndcfffbpbbhaaQPb
import Derived.Test.YtfndcfffbpbbhaaQPm
import Derived.Test.YtfndcfffbpbbhaaQx16
namespace Go.Proofs.Ytfndcfffbpbbhaa.Q
open Go.RowKit Go.Proofs.YtfndcfffbpbbhaaW.PrintWords Go.Proofs.YtfndcfffbpbbhaaW.PrintLast Go.Proofs.YtfndcfffbpbbhaaW.PrintMore
set_option linter.unusedVariables false
set_option linter.unusedSimpArgs false
theorem lread_le {K : Nat} (hK : 11 ≤ K) {l : List Int} (hb : ∀ x ∈ l, Byt x) : trothref05_Read.f K l = luw_Read.f l := by
 obtain ⟨k, rfl⟩ : ∃ k, K = k + 1 + 1 + 1 + 1 + 1 + 1 + 1 + 1 + 1 + 1 + 1 := ⟨K - 11, by omega⟩
 exact ref_lread k l hb
theorem get_le {K : Nat} (hK : 6 ≤ K) {x : Int} (h : U32b x) : trothref01_Get.f K (fourOf x) = some (x, 0) := by
 obtain ⟨k, rfl⟩ : ∃ k, K = k + 1 + 1 + 1 + 1 + 1 + 1 := ⟨K - 6, by omega⟩
 unfold U32b at h
 unfold fourOf
 rw [get_four _ _ _ _ ⟨by omega, by omega⟩ ⟨by omega, by omega⟩ ⟨by omega, by omega⟩ ⟨by omega, by omega⟩]
 congr 2
 omega
theorem u32m {x : Int} (h : U32b x) : x % 4294967296 = x := by unfold U32b at h; omega
theorem guess2 {K : Nat} (hK : 10 ≤ K) (t : Bool) (id : Int) {data : List Int} (hb : Bytes data) (a b c d : Int) (m : Bool) {x y : Int} (hx : U32b x) (hy : U32b y) (ht : t = true → data.length = 8) :
  ∃ x' y', U32b x' ∧ U32b y' ∧ trothref06_guess.j2 K t id data a b c d m x y = some (a, b, c, d, m, x', y') := by
 obtain ⟨k, rfl⟩ : ∃ k, K = k + 1 := ⟨K - 1, by omega⟩
 rw [trothref06_guess.j2]
 cases t with
 | false => exact ⟨x, y, hx, hy, by rw [if_neg (by decide)]⟩
 | true =>
  have h8 := ht rfl
  obtain ⟨x', ux, ex, _⟩ := four_of (hb.take 4) (by rw [List.length_take]; omega)
  obtain ⟨y', uy, ey, _⟩ := four_of (hb.drop 4) (by rw [List.length_drop]; omega)
  refine ⟨x', y', ux, uy, ?_⟩
  rw [if_pos rfl, if_pos (by omega), ex, get_le (by omega) ux, Option.bind_some, ey, get_le (by omega) uy, Option.bind_some]
  simp only
  rw [u32m ux, u32m uy]
theorem guess1 {K : Nat} (hK : 12 ≤ K) (id : Int) {data : List Int} (hb : Bytes data) (a b c d : Int) (m : Bool) {x y : Int} (hx : U32b x) (hy : U32b y) :
  ∃ x' y', U32b x' ∧ U32b y' ∧ trothref06_guess.j1 K id data a b c d m x y = some (a, b, c, d, m, x', y') := by
 obtain ⟨k, rfl⟩ : ∃ k, K = k + 1 := ⟨K - 1, by omega⟩
 rw [trothref06_guess.j1]
 by_cases h : a = 12
 ·rw [if_pos h]
  exact guess2 (by omega) _ id hb a b c d m hx hy (fun q => by have := beq_iff_eq.1 q; omega)
 ·rw [if_neg h]
  exact guess2 (by omega) _ id hb a b c d m hx hy (fun q => by cases q)
theorem guess_some {K : Nat} (hK : 20 ≤ K) {id : Int} {data : List Int} (hb : Bytes data) :
  ∃ a b c d m x y, U32b c ∧ U32b d ∧ U32b x ∧ U32b y ∧ trothref06_guess.f K id data = some (a, b, c, d, m, x, y) := by
 have z0 : U32b 0 := ⟨by decide, by decide⟩
 obtain ⟨k, rfl⟩ : ∃ k, K = k + 1 := ⟨K - 1, by omega⟩
 have j : ∀ t : Bool, (t = true → data.length = 10) → ∃ a b c d m x y, U32b c ∧ U32b d ∧ U32b x ∧ U32b y ∧ trothref06_guess.j0 (k + 1) t id data (wrap64 (id - 4864)) 0 0 0 false 0 0 = some (a, b, c, d, m, x, y) := by
  intro t ht
  rw [trothref06_guess.j0]
  cases t with
  | false =>
   obtain ⟨x, y, ux, uy, h⟩ := guess1 (K := k) (by omega) id hb (wrap64 (id - 4864)) 0 0 0 false z0 z0
   exact ⟨_, _, _, _, _, x, y, z0, z0, ux, uy, by rw [if_neg (by decide)]; exact h⟩
  | true =>
   have h10 := ht rfl
   rw [if_pos rfl, if_pos (by omega), lread_le (by omega) (fun z hz => hb.take 9 z hz)]
   rcases read_cases (data.take 9) (fun z hz => hb.take 9 z hz) with ⟨e', _, hu⟩ | ⟨u, v, q, hp, uv, uq, hu, hnine⟩
   ·obtain ⟨x, y, ux, uy, h⟩ := guess1 (K := k) (by omega) id hb (wrap64 (id - 4864)) 0 0 0 (rd data 9 == 1) z0 z0
    exact ⟨_, _, _, _, _, x, y, z0, z0, ux, uy, by rw [hu, Option.bind_some, if_pos (by omega)]; exact h⟩
   ·obtain ⟨x, y, ux, uy, h⟩ := guess1 (K := k) (by omega) id hb (wrap64 (id - 4864)) u v q (rd data 9 == 1) z0 z0
    exact ⟨_, _, _, _, _, x, y, uv, uq, ux, uy, by rw [hu, Option.bind_some, if_pos (by omega)]; exact h⟩
 unfold trothref06_guess.f
 split
 ·exact j _ (fun q => by have := beq_iff_eq.1 q; omega)
 ·exact j _ (fun q => by cases q)
theorem guess_frame {K : Nat} (hK : 20 ≤ K) {a b c d : Int} {m : Bool} {x y : Int} (hr : rightM a b c d m x y = true) (hc : U32b c) (hd : U32b d) (hx : U32b x) (hy : U32b y) : trothref06_guess.f K (4864 + a) (dataM a b c d m x y) = some (a, b, c, d, m, x, y) := by
 obtain ⟨k, rfl⟩ : ∃ k, K = k + 1 + 1 + 1 := ⟨K - 3, by omega⟩
 have hk := right_kind hr
 have hw : wrap64 (4864 + a - 4864) = a := by rw [w64 (by omega) (by omega)]; omega
 have hr' := hr
 unfold rightM at hr'
 unfold trothref06_guess.f
 rw [hw]
 by_cases h12 : a = 12
 ·have hd' : dataM a b c d m x y = fourOf x ++ fourOf y := by unfold dataM; rw [if_pos h12]
  rw [if_pos h12, decide_eq_true_eq] at hr'
  obtain ⟨_, r1, r2, r3, r4⟩ := hr'
  rw [hd', if_neg (by omega), trothref06_guess.j0, if_neg (by decide), trothref06_guess.j1, if_pos h12, trothref06_guess.j2, if_pos (by rfl), if_pos (by simp [fourOf]), show (fourOf x ++ fourOf y).take 4 = fourOf x from rfl, show (fourOf x ++ fourOf y).drop 4 = fourOf y from rfl, get_le (by omega) hx, Option.bind_some, get_le (by omega) hy, Option.bind_some]
  simp only
  rw [u32m hx, u32m hy, r1, r2, r3, r4]
 ·rw [if_neg h12] at hr'
  by_cases h13 : a = 13
  ·have hd' : dataM a b c d m x y = [] := by unfold dataM; rw [if_neg h12, if_pos h13]
   rw [if_pos h13, decide_eq_true_eq] at hr'
   obtain ⟨r1, r2, r3, r4, r5, r6⟩ := hr'
   rw [hd', if_neg (by omega), trothref06_guess.j0, if_neg (by decide), trothref06_guess.j1, if_neg h12, trothref06_guess.j2, if_neg (by decide), r1, r2, r3, r4, r5, r6]
  ·rw [if_neg h13, decide_eq_true_eq] at hr'
   have hd' : dataM a b c d m x y = nine b c d ++ [if m = true then 1 else 0] := by unfold dataM; rw [if_neg h12, if_neg h13]
   obtain ⟨_, r1, r2, r3, r5, r6⟩ := hr'
   have t9 : (nine b c d ++ [if m = true then (1 : Int) else 0]).take 9 = nine b c d := rfl
   have h9 : rd (nine b c d ++ [if m = true then 1 else 0]) 9 = if m = true then 1 else 0 := rfl
   have hm : ((if m = true then (1 : Int) else 0) == 1) = m := by cases m <;> rfl
   rw [hd', if_pos r1, trothref06_guess.j0, if_pos (by rfl), if_pos (by simp [nine]), t9, lread_le (by omega) (fun z hz => nine_bytes b c d z hz), read_nine _ _ _ r2 hc hd, Option.bind_some, if_pos (by simp [nine]), h9, hm]
   simp only
   rw [trothref06_guess.j1, if_neg h12, trothref06_guess.j2, if_neg (by decide), r5, r6]
theorem ref_mread {K : Nat} (hK : 400 ≤ K) {l : List Int} (hb : Bytes l) (hl : l.length ≤ 140737488351232) : trothref06_Read.f K l = psh_Read.f l := by
 unfold trothref06_Read.f
 rw [ref_next hb hl (by omega), Option.bind_some]
 rcases read_sound hb hl with ⟨a, b, c, d, m, x, y, hr, hc, hd, hx, hy, hf, h⟩ | ⟨e, he, h, hform⟩
 ·rw [h]
  subst hf
  rw [frame_next hr]
  simp only
  rw [if_pos trivial, if_pos trivial, guess_frame (by omega) hr hc hd hx hy, Option.bind_some]
  simp only
  rw [ref_mwrite (by omega) hc hd hx hy, if_pos hr, Option.bind_some]
  simp only
  rw [if_pos trivial, if_pos trivial]
 ·have S := nextS_spec hb 64 0 true 0 [] (by omega) bytes_nil (by simp) (by simp)
  obtain ⟨⟨id, data, n, e1⟩, hN⟩ : ∃ q, nextS l 64 0 true 0 [] = q := ⟨_, rfl⟩
  rw [hN] at S hform ⊢
  simp only at S hform ⊢
  rw [h]
  by_cases c0 : e1 = 0
  ·rw [if_pos c0]
   rw [if_neg (by omega)] at hform
   rcases S with S | S
   ·exact absurd c0 S.1
   obtain ⟨_, hid, hB, _, N, hNn, hN2, hN3⟩ := S
   by_cases c1 : n < (l.length : Int)
   ·rw [if_pos c1] at hform
    rw [if_neg (by omega), hform]
   ·rw [if_neg c1] at hform
    obtain ⟨a, b, c, d, m, x, y, hc, hd, hx, hy, hg⟩ := guess_some (K := K) (by omega) (id := id) hB
    rw [if_pos (by omega), hg, Option.bind_some]
    simp only
    rw [ref_mwrite (by omega) hc hd hx hy, Option.bind_some]
    by_cases hr : rightM a b c d m x y = true
    ·rw [if_pos hr]
     simp only
     rw [if_pos trivial, if_neg, hform]
     intro q
     have hq := (str_inj (frame_bytes hx hy hr) hb).1 q
     have h2 := read_frame hr hc hd hx hy
     rw [hq, h] at h2
     simp only [Option.some.injEq, Prod.mk.injEq] at h2
     exact he h2.2.2.2.2.2.2.2
    ·rw [if_neg hr]
     simp only
     rw [if_neg (by decide), hform]
  ·rw [if_neg c0]
   rw [if_pos c0] at hform
   rw [hform]
end Go.Proofs.Ytfndcfffbpbbhaa.Q
