/- psh.Read, plainly: it takes the bytes of a right message, and nothing else. -/
import Derived.Test.YtfndcfffbpbbhaaQPi
import Derived.Test.YtfndcfffbpbbhaaQReadZ
import Derived.Test.YtfndcfffbpbbhaaQPe
namespace Go.Proofs.Ytfndcfffbpbbhaa.Q
open Go.RowKit Go.Proofs.YtfndcfffbpbbhaaW.PrintWords Go.Proofs.YtfndcfffbpbbhaaW.PrintLast Go.Proofs.YtfndcfffbpbbhaaW.PrintMore
set_option linter.unusedVariables false
set_option linter.unusedSimpArgs false

theorem or_u64 {a b : Int} (ha : 0 ≤ a ∧ a < 16777216) (hb : 0 ≤ b ∧ b < 256) : Go.bits .or .u64 (a * 256) b = a * 256 + b := by
  obtain ⟨n, rfl⟩ := Int.eq_ofNat_of_zero_le ha.1
  obtain ⟨m, rfl⟩ := Int.eq_ofNat_of_zero_le hb.1
  unfold Go.bits
  have h1 : (BitVec.ofInt IntKind.u64.bits ((n : Int) * 256) ||| BitVec.ofInt IntKind.u64.bits (m : Int)).toNat = n * 256 + m := by
    rw [BitVec.toNat_or, BitVec.toNat_ofInt, BitVec.toNat_ofInt]
    have e1 : (((n : Int) * 256) % ((2 ^ IntKind.u64.bits : Nat) : Int)).toNat = 2 ^ 8 * n := by
      rw [show ((2 ^ IntKind.u64.bits : Nat) : Int) = 18446744073709551616 from rfl]; omega
    have e2 : ((m : Int) % ((2 ^ IntKind.u64.bits : Nat) : Int)).toNat = m := by
      rw [show ((2 ^ IntKind.u64.bits : Nat) : Int) = 18446744073709551616 from rfl]; omega
    rw [e1, e2, ← Nat.two_pow_add_eq_or_of_lt (show m < 2 ^ 8 by omega)]
    omega
  simp only [h1]
  rw [IntKind.wrap_u64]
  omega
theorem og (k : Nat) (x : Int) (l : List Int) (n i : Int) (hx : 0 ≤ x ∧ x < 16777216) (hr : 0 ≤ rd l i ∧ rd l i < 256) (h0 : 0 ≤ i) (hi : i < (l.length : Int)) (hn : i < n) (h1 : i + 1 ≤ 9) :
    oct_Get.l0 (k + 1) x l n i = oct_Get.l0 k (x * 256 + rd l i) l n (i + 1) := by
  rw [oct_Get.l0, if_pos hn, if_pos h0, if_pos hi, IntKind.wrap_u64, IntKind.wrap_u64, show x * 256 % 18446744073709551616 = x * 256 by omega, show rd l i % 18446744073709551616 = rd l i by omega, or_u64 hx hr, w64 (by omega) (by omega)]
theorem oget_four (a b c d : Int) (ha : Byt a) (hb : Byt b) (hc : Byt c) (hd : Byt d) : oct_Get.f 16 [a, b, c, d] = some (a * 16777216 + b * 65536 + c * 256 + d, 0) := by
  unfold Byt at ha hb hc hd
  have r0 : rd [a, b, c, d] 0 = a := rfl
  have r1 : rd [a, b, c, d] 1 = b := rfl
  have r2 : rd [a, b, c, d] 2 = c := rfl
  have r3 : rd [a, b, c, d] 3 = d := rfl
  unfold oct_Get.f
  rw [if_neg (by simp)]
  show oct_Get.j0 (11 + 1 + 1 + 1 + 1 + 1) [a, b, c, d] false = _
  rw [oct_Get.j0, if_neg (by decide)]
  show oct_Get.l0 (11 + 1 + 1 + 1 + 1) 0 [a, b, c, d] 4 0 = _
  rw [og _ _ _ _ _ (by omega) (by rw [r0]; exact ha) (by omega) (by simp) (by omega) (by omega), r0]
  rw [og _ _ _ _ _ (by omega) (by rw [show (0 : Int) + 1 = 1 from rfl, r1]; exact hb) (by omega) (by simp) (by omega) (by omega), show (0 : Int) + 1 = 1 from rfl, r1]
  rw [og _ _ _ _ _ (by omega) (by rw [show (1 : Int) + 1 = 2 from rfl, r2]; exact hc) (by omega) (by simp) (by omega) (by omega), show (1 : Int) + 1 = 2 from rfl, r2]
  rw [og _ _ _ _ _ (by omega) (by rw [show (2 : Int) + 1 = 3 from rfl, r3]; exact hd) (by omega) (by simp) (by omega) (by omega), show (2 : Int) + 1 = 3 from rfl, r3]
  show oct_Get.l0 (10 + 1) _ _ _ _ = _
  rw [oct_Get.l0, if_neg (by decide)]
  congr 2
  omega
theorem four_of {l : List Int} (hb : Bytes l) (hl : l.length = 4) : ∃ x, U32b x ∧ l = fourOf x ∧ oct_Get.f 16 l = some (x, 0) := by
  match l, hl with
  | [a, b, c, d], _ =>
    have ha := hb a (by simp)
    have hb' := hb b (by simp)
    have hc := hb c (by simp)
    have hd := hb d (by simp)
    refine ⟨a * 16777216 + b * 65536 + c * 256 + d, ⟨by omega, by omega⟩, ?_, oget_four a b c d ?_ ?_ ?_ ?_⟩
    · simp only [fourOf, List.cons.injEq, and_true]; omega
    all_goals (unfold Byt; omega)

/-- One piece that takes up all the bytes. -/
theorem next_one {b : List Int} (hb : Bytes b) {id : Int} {data : List Int} (h : nextS b 64 0 true 0 [] = (id, data, (b.length : Int), 0)) (hn : b.length = data.length + 4) :
    data.length ≤ 2048 ∧ b = [(b.length : Int) / 256, (b.length : Int) % 256, id / 256, id % 256] ++ data ∧ 0 ≤ id ∧ id ≤ 65535 := by
  have hd0 : Bytes ([] : List Int) := bytes_nil
  have h0 := hb.get 0
  have h1 := hb.get 1
  have h2 := hb.get 2
  have h3 := hb.get 3
  have S := nextS_spec hb 63
  rw [show (64 : Nat) = 63 + 1 from rfl, nextS] at h
  simp only [Nat.zero_add, if_true, List.nil_append] at h
  by_cases c1 : b.length < 2
  · rw [if_pos c1] at h; simp at h
  rw [if_neg c1] at h
  generalize hr : 256 * b.getD 0 0 + b.getD 1 0 = r at *
  generalize hm : (r % 32768).toNat = n at *
  by_cases c2 : n < 4
  · rw [if_pos c2] at h; simp at h
  rw [if_neg c2] at h
  by_cases c3 : b.length < n
  · rw [if_pos c3] at h; simp at h
  rw [if_neg c3] at h
  have hdl : ((b.take n).drop 4).length = n - 4 := by rw [List.length_drop, List.length_take]; omega
  by_cases c5 : 2048 < ((b.take n).drop 4).length
  · rw [if_pos c5] at h; simp at h
  rw [if_neg c5] at h
  by_cases c6 : r < 32768
  · rw [if_pos c6] at h
    simp only [Prod.mk.injEq] at h
    obtain ⟨e1, e2, e3, _⟩ := h
    have en : n = b.length := by omega
    rw [en, List.take_length] at e2
    subst e1
    refine ⟨by rw [← e2, List.length_drop]; omega, ?_, by omega, by omega⟩
    rw [← e2, show (256 * b.getD 2 0 + b.getD 3 0) / 256 = b.getD 2 0 by omega, show (256 * b.getD 2 0 + b.getD 3 0) % 256 = b.getD 3 0 by omega, show (b.length : Int) / 256 = b.getD 0 0 by omega, show (b.length : Int) % 256 = b.getD 1 0 by omega]
    match b, (show 4 ≤ b.length by omega) with
    | p :: q :: s :: u :: z, _ => rfl
  · rw [if_neg c6] at h
    have T := S n false (256 * b.getD 2 0 + b.getD 3 0) ((b.take n).drop 4) (by omega) ((hb.take _).drop _) (by omega) (fun _ => ⟨by omega, by omega⟩)
    rw [h] at T
    rcases T with T | T
    · exact absurd rfl T.1
    · obtain ⟨_, _, _, _, N, hN, hN2, hN3⟩ := T
      simp only [if_neg (show ¬ (false = true) by decide)] at hN3
      simp only at hN
      simp at hN3
      omega

theorem four_get {x : Int} (h : U32b x) : oct_Get.f 16 (fourOf x) = some (x, 0) := by
  unfold U32b at h
  unfold fourOf
  rw [oget_four _ _ _ _ ⟨by omega, by omega⟩ ⟨by omega, by omega⟩ ⟨by omega, by omega⟩ ⟨by omega, by omega⟩]
  congr 2
  omega
theorem u32w {x : Int} (h : U32b x) : IntKind.u32.wrap x = x := by
  unfold U32b at h
  rw [IntKind.wrap_u32]; omega
theorem fin_eq (a b c d : Int) (m : Bool) (x y : Int) : readFin a b c d m x y = some (if rightM a b c d m x y = true then (a, b, c, d, m, x, y, 0) else (0, 0, 0, 0, false, 0, 0, 30)) := by
  unfold readFin
  rw [psh_right_eq, Option.bind_some]
  split <;> rfl
theorem frame_next {a b c d : Int} {m : Bool} {x y : Int} (hr : rightM a b c d m x y = true) : nextS (frameM a b c d m x y) 64 0 true 0 [] = (4864 + a, dataM a b c d m x y, ((frameM a b c d m x y).length : Int), 0) := by
  have hk := right_kind hr
  have hlen := data_len a b c d m x y
  have hg := gds_small (a := a) (data := dataM a b c d m x y) (by omega) (by rw [hlen]; split <;> (try split) <;> omega)
  have := back_next hg []
  rw [List.append_nil] at this
  exact this
theorem read_frame {a b c d : Int} {m : Bool} {x y : Int} (hr : rightM a b c d m x y = true) (hc : U32b c) (hd : U32b d) (hx : U32b x) (hy : U32b y) : psh_Read.f (frameM a b c d m x y) = some (a, b, c, d, m, x, y, 0) := by
  have hk := right_kind hr
  have hlen := data_len a b c d m x y
  have hl10 : (dataM a b c d m x y).length ≤ 10 := by rw [hlen]; split <;> (try split) <;> omega
  have hfl : (frameM a b c d m x y).length = (dataM a b c d m x y).length + 4 := by simp [frameM]
  have hw : wrap64 (4864 + a - 4864) = a := by rw [w64 (by omega) (by omega)]; omega
  unfold psh_Read.f
  rw [gds_next (frame_bytes hx hy hr) (by omega) (by omega), Option.bind_some, frame_next hr]
  simp only
  rw [if_neg (by omega), if_neg (by simp), if_neg (by omega), if_neg (by rw [hfl]; simp), hw]
  have hr' := hr
  unfold rightM at hr'
  by_cases h12 : a = 12
  · have hd' : dataM a b c d m x y = fourOf x ++ fourOf y := by unfold dataM; rw [if_pos h12]
    rw [if_pos h12, decide_eq_true_eq] at hr'
    obtain ⟨_, r1, r2, r3, r4⟩ := hr'
    rw [hd', if_pos ⟨h12, rfl⟩, show (fourOf x ++ fourOf y).take 4 = fourOf x from rfl, show (fourOf x ++ fourOf y).drop 4 = fourOf y from rfl, four_get hx, Option.bind_some, four_get hy, Option.bind_some, u32w hx, u32w hy, fin_eq]
    subst h12 r1 r2 r3 r4
    rw [if_pos hr]
  · rw [if_neg h12] at hr'
    rw [if_neg (fun q => h12 q.1)]
    by_cases h13 : a = 13
    · have hd' : dataM a b c d m x y = [] := by unfold dataM; rw [if_neg h12, if_pos h13]
      rw [if_pos h13, decide_eq_true_eq] at hr'
      obtain ⟨r1, r2, r3, r4, r5, r6⟩ := hr'
      rw [hd', if_pos ⟨h13, rfl⟩, fin_eq]
      subst h13 r1 r2 r3 r4 r5 r6
      rw [if_pos hr]
    · rw [if_neg h13, decide_eq_true_eq] at hr'
      have hd' : dataM a b c d m x y = nine b c d ++ [if m = true then 1 else 0] := by unfold dataM; rw [if_neg h12, if_neg h13]
      obtain ⟨_, r1, r2, r3, r5, r6⟩ := hr'
      rw [if_neg (fun q => h13 q.1), hd']
      have t9 : (nine b c d ++ [if m = true then (1 : Int) else 0]).take 9 = nine b c d := rfl
      have h9 : rd (nine b c d ++ [if m = true then 1 else 0]) 9 = if m = true then 1 else 0 := rfl
      rw [if_pos ⟨r1, rfl, by rw [h9]; split <;> omega⟩, t9, read_nine _ _ _ r2 hc hd, Option.bind_some, h9]
      simp only
      rw [fin_eq]
      subst r5 r6
      have hm : ((if m = true then (1 : Int) else 0) == 1) = m := by cases m <;> rfl
      rw [hm, if_pos hr]

/-- What Read tells of any bytes. -/
theorem read_sound {l : List Int} (hb : Bytes l) (hl : l.length ≤ 140737488351232) :
    (∃ a b c d m x y, rightM a b c d m x y = true ∧ U32b c ∧ U32b d ∧ U32b x ∧ U32b y ∧ l = frameM a b c d m x y ∧ psh_Read.f l = some (a, b, c, d, m, x, y, 0)) ∨
    (∃ e, e ≠ 0 ∧ psh_Read.f l = some (0, 0, 0, 0, false, 0, 0, e) ∧ e = if (nextS l 64 0 true 0 []).2.2.2 ≠ 0 then (nextS l 64 0 true 0 []).2.2.2 else if (nextS l 64 0 true 0 []).2.2.1 < (l.length : Int) then 2 else 30) := by
  have S := nextS_spec hb 64 0 true 0 [] (by omega) bytes_nil (by simp) (by simp)
  have hf : psh_Read.f l = _ := rfl
  conv at hf => rhs; unfold psh_Read.f
  rw [gds_next hb hl (by omega), Option.bind_some] at hf
  obtain ⟨⟨id, data, n, e⟩, hN⟩ : ∃ q, nextS l 64 0 true 0 [] = q := ⟨_, rfl⟩
  rw [hN] at S hf ⊢
  simp only at S hf ⊢
  have hd : data.length ≤ 2048 := by
    rcases S with S | S
    · rw [S.2.2.1]; simp
    · exact S.2.2.2.1
  rw [if_neg (by omega)] at hf
  by_cases he : e ≠ 0
  · right
    rw [if_pos he] at hf
    exact ⟨e, he, hf, by rw [if_pos he]⟩
  rw [if_neg he] at hf
  have he0 : e = 0 := by omega
  rcases S with S | S
  · exact absurd he0 S.1
  obtain ⟨_, hid, hB, _, N, hNn, hN2, hN3⟩ := S
  by_cases c1 : n < (l.length : Int)
  · right
    rw [if_pos c1] at hf
    exact ⟨2, by decide, hf, by rw [if_neg he, if_pos c1]⟩
  rw [if_neg c1] at hf
  have no : psh_Read.f l = some (0, 0, 0, 0, false, 0, 0, 30) → (∃ a b c d m x y, rightM a b c d m x y = true ∧ U32b c ∧ U32b d ∧ U32b x ∧ U32b y ∧ l = frameM a b c d m x y ∧ psh_Read.f l = some (a, b, c, d, m, x, y, 0)) ∨
    (∃ e', e' ≠ 0 ∧ psh_Read.f l = some (0, 0, 0, 0, false, 0, 0, e') ∧ e' = if e ≠ 0 then e else if n < (l.length : Int) then 2 else 30) :=
    fun h => .inr ⟨30, by decide, h, by rw [if_neg he, if_neg c1]⟩
  by_cases c2 : n ≠ (data.length : Int) + 4
  · rw [if_pos c2] at hf
    exact no hf
  rw [if_neg c2] at hf
  have hn : n = (l.length : Int) := by omega
  rw [hn, he0] at hN
  obtain ⟨_, hform, _⟩ := next_one hb hN (by omega)
  have hw : wrap64 (id - 4864) = id - 4864 := w64 (by omega) (by omega)
  rw [hw] at hf
  have z0 : U32b 0 := ⟨by decide, by decide⟩
  have hlen : (l.length : Int) = data.length + 4 := by omega
  by_cases k12 : id - 4864 = 12 ∧ data.length = 8
  · rw [if_pos k12] at hf
    obtain ⟨x, ux, ex, gx⟩ := four_of (hB.take 4) (by rw [List.length_take]; omega)
    obtain ⟨y, uy, ey, gy⟩ := four_of (hB.drop 4) (by rw [List.length_drop]; omega)
    rw [gx, Option.bind_some, gy, Option.bind_some, u32w ux, u32w uy, fin_eq] at hf
    by_cases hr : rightM 12 0 0 0 false x y = true
    · rw [if_pos hr] at hf
      refine .inl ⟨12, 0, 0, 0, false, x, y, hr, z0, z0, ux, uy, ?_, hf⟩
      have e1 : data = fourOf x ++ fourOf y := by rw [← ex, ← ey, List.take_append_drop]
      rw [hform, hlen, k12.2, show id / 256 = 19 by omega, show id % 256 = 12 by omega, e1]
      rfl
    · rw [if_neg hr] at hf
      exact no hf
  rw [if_neg k12] at hf
  by_cases k13 : id - 4864 = 13 ∧ data.length = 0
  · rw [if_pos k13, fin_eq, if_pos (by rfl)] at hf
    refine .inl ⟨13, 0, 0, 0, false, 0, 0, rfl, z0, z0, z0, z0, ?_, hf⟩
    rw [hform, hlen, k13.2, show id / 256 = 19 by omega, show id % 256 = 13 by omega, List.eq_nil_of_length_eq_zero k13.2]
    rfl
  rw [if_neg k13] at hf
  by_cases k9 : id - 4864 < 12 ∧ data.length = 10 ∧ rd data 9 < 2
  · rw [if_pos k9] at hf
    obtain ⟨hk, hl10, h9⟩ := k9
    rcases read_cases (data.take 9) (fun z hz => hB.take 9 z hz) with ⟨e', _, hu⟩ | ⟨u, v, q, hp, uv, uq, hu, hnine⟩
    · rw [hu, Option.bind_some, fin_eq, if_neg] at hf
      · exact no hf
      · unfold rightM
        rw [if_neg (by omega), if_neg (by omega)]
        simp [rightP]
    · rw [hu, Option.bind_some, fin_eq] at hf
      simp only at hf
      by_cases hr : rightM (id - 4864) u v q (rd data 9 == 1) 0 0 = true
      · rw [if_pos hr] at hf
        refine .inl ⟨id - 4864, u, v, q, rd data 9 == 1, 0, 0, hr, uv, uq, z0, z0, ?_, hf⟩
        have hk' := right_kind hr
        have e1 : data = nine u v q ++ [rd data 9] := by
          rw [← hnine]
          conv => lhs; rw [← List.take_append_drop 9 data]
          congr 1
          match data, hl10 with
          | [a0, a1, a2, a3, a4, a5, a6, a7, a8, a9], _ => rfl
        have h90 : 0 ≤ rd data 9 := by
          have := hB.get 9
          exact this.1
        have e2 : (if (rd data 9 == 1) = true then (1 : Int) else 0) = rd data 9 := by
          by_cases h1 : rd data 9 = 1
          · rw [h1]; rfl
          · rw [if_neg (by simpa using h1)]; omega
        unfold frameM dataM
        rw [if_neg (by omega), if_neg (by omega), e2, ← e1, hl10]
        conv => lhs; rw [hform]
        rw [hlen, hl10, show id / 256 = 19 by omega, show id % 256 = id - 4864 by omega]
        rfl
      · rw [if_neg hr] at hf
        exact no hf
  · rw [if_neg k9] at hf
    exact no hf
end Go.Proofs.Ytfndcfffbpbbhaa.Q
