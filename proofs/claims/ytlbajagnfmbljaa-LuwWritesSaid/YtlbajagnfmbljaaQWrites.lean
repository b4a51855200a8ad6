/- LuwWrites: the plain law, and the walk that answers true. -/
import Derived.Test.YtlbajagnfmbljaaQBytes
import Derived.Test.YtlbajagnfmbljaaQAlive
import Derived.Test.YtlbajagnfmbljaaQByteRow
import Derived.Test.YtlbajagnfmbljaaQWr
import Derived.IntWalk
import Derived.OpenShut
namespace Go.Proofs.Ytlbajagnfmbljaa.Q
open Go.RowKit Go.Proofs.YtlbajagnfmbljaaW.PrintWords Go.Proofs.YtlbajagnfmbljaaW.PrintLast Go.Proofs.YtlbajagnfmbljaaW.PrintMore
set_option linter.unusedVariables false
set_option linter.unusedSimpArgs false

theorem u64i (n : Int) (h0 : 0 ≤ n) (h1 : n ≤ 18446744073709551615) : IntKind.u64.wrap n = n := IntWalk.u64_in n ⟨h0, h1⟩

theorem W9 (n : Int) (h0 : -9 ≤ n) (h1 : n ≤ 9) : wrap64 n = n := by unfold wrap64; omega

theorem p0 (k : Nat) (x n : Int) (acc : List Int) (i : Int) (hx : 0 ≤ x ∧ x < 4294967296) (hi : i < n) (hl : acc.length < 140737488355328) (h0 : -9 ≤ i + 1) (h1 : i + 1 ≤ 9) :
    trothref01_Put.l0 (k + 1) x n acc i = trothref01_Put.l0 k (x / 256) n (acc ++ [x % 256]) (i + 1) := by
  have d : IntKind.u64.wrap (Int.tdiv x 256) = x / 256 := by
    rw [Int.tdiv_eq_ediv_of_nonneg hx.1]
    exact u64i _ (by omega) (by omega)
  have m : (Int.tmod x 256) % 256 = x % 256 := by
    rw [Int.tmod_eq_emod_of_nonneg hx.1]; omega
  simp only [trothref01_Put.l0]
  rw [if_pos hi, if_pos hl, d, m, W9 _ h0 h1]

theorem p1 (k : Nat) (x n : Int) (acc : List Int) (i : Int) (hx : x = 0) (hi : ¬ i < n) (h0 : -9 ≤ n - 1) (h1 : n - 1 ≤ 9) : trothref01_Put.l0 (k + 1) x n acc i = trothref01_Put.l1 k acc [] (n - 1) := by
  simp only [trothref01_Put.l0]
  rw [if_neg hi, if_neg (by omega), W9 _ h0 h1]

theorem q0 (k : Nat) (l out : List Int) (i : Int) (h0 : 0 ≤ i) (hi : i < (l.length : Int)) (hl : out.length < 140737488355328) (h1 : i ≤ 9) : trothref01_Put.l1 (k + 1) l out i = trothref01_Put.l1 k l (out ++ [rd l i]) (i - 1) := by
  simp only [trothref01_Put.l1]
  rw [if_pos h0, if_pos h0, if_pos hi, if_pos hl, W9 _ (by omega) (by omega)]

theorem q1 (k : Nat) (l out : List Int) (i : Int) (h0 : ¬ 0 ≤ i) : trothref01_Put.l1 (k + 1) l out i = some (out, 0) := by
  simp only [trothref01_Put.l1]
  rw [if_neg h0]

theorem put_f (k : Nat) (x n : Int) (h1 : 1 ≤ n) (h2 : n ≤ 8) : trothref01_Put.f (k + 1) x n = trothref01_Put.l0 k x n [] 0 := by
  unfold trothref01_Put.f
  rw [if_neg (by omega), decide_eq_false (by omega)]
  simp only [trothref01_Put.j0]
  rw [if_neg (by simp)]

theorem put_one (x : Int) (h : 0 ≤ x ∧ x < 256) (k : Nat) : trothref01_Put.f (k + 1 + 1 + 1 + 1 + 1) x 1 = some ([x % 256], 0) := by
  rw [put_f _ _ _ (by omega) (by omega), p0 _ x 1 [] 0 (by omega) (by omega) (by simp) (by omega) (by omega), p1 _ _ _ _ _ (by omega) (by omega) (by omega) (by omega), q0 _ _ _ _ (by omega) (by simp) (by simp) (by omega), q1 _ _ _ _ (by omega)]
  rfl

theorem put_four (x : Int) (h : 0 ≤ x ∧ x < 4294967296) (k : Nat) : trothref01_Put.f (k + 1 + 1 + 1 + 1 + 1 + 1 + 1 + 1 + 1 + 1 + 1) x 4 = some ([(x / 16777216) % 256, (x / 65536) % 256, (x / 256) % 256, x % 256], 0) := by
  rw [put_f _ _ _ (by omega) (by omega), p0 _ x 4 [] 0 (by omega) (by omega) (by simp) (by omega) (by omega), p0 _ _ _ _ _ (by omega) (by omega) (by simp) (by omega) (by omega), p0 _ _ _ _ _ (by omega) (by omega) (by simp) (by omega) (by omega), p0 _ _ _ _ _ (by omega) (by omega) (by simp) (by omega) (by omega), p1 _ _ _ _ _ (by omega) (by omega) (by omega) (by omega)]
  rw [q0 _ _ _ _ (by omega) (by simp) (by simp) (by omega), q0 _ _ _ _ (by omega) (by simp) (by simp) (by omega), q0 _ _ _ _ (by omega) (by simp) (by simp) (by omega), q0 _ _ _ _ (by omega) (by simp) (by simp) (by omega), q1 _ _ _ _ (by omega)]
  have r : ∀ a b c d : Int, ((((([] : List Int) ++ [rd ([] ++ [a] ++ [b] ++ [c] ++ [d]) (4 - 1)]) ++ [rd ([] ++ [a] ++ [b] ++ [c] ++ [d]) (4 - 1 - 1)]) ++ [rd ([] ++ [a] ++ [b] ++ [c] ++ [d]) (4 - 1 - 1 - 1)]) ++ [rd ([] ++ [a] ++ [b] ++ [c] ++ [d]) (4 - 1 - 1 - 1 - 1)]) = [d, c, b, a] := fun a b c d => rfl
  rw [r]
  congr 2
  simp only [List.cons.injEq, and_true]
  omega

theorem g0 (k : Nat) (l : List Int) (x i : Int) (hx : 0 ≤ x ∧ x < 16777216) (hr : Byt (rd l i)) (h0 : 0 ≤ i) (hi : i < (l.length : Int)) (h1 : i + 1 ≤ 9) : trothref01_Get.l0 (k + 1) l x i = trothref01_Get.l0 k l (256 * x + rd l i) (i + 1) := by
  unfold Byt at hr
  simp only [trothref01_Get.l0]
  rw [if_pos hi, if_pos h0, W9 _ (by omega) h1, u64i (256 * x) (by omega) (by omega), u64i (rd l i) (by omega) (by omega), u64i _ (by omega) (by omega)]

theorem get_four (a b c d : Int) (ha : Byt a) (hb : Byt b) (hc : Byt c) (hd : Byt d) (k : Nat) : trothref01_Get.f (k + 1 + 1 + 1 + 1 + 1 + 1) [a, b, c, d] = some (a * 16777216 + b * 65536 + c * 256 + d, 0) := by
  have r0 : rd [a, b, c, d] 0 = a := rfl
  have r1 : rd [a, b, c, d] (0 + 1) = b := rfl
  have r2 : rd [a, b, c, d] (0 + 1 + 1) = c := rfl
  have r3 : rd [a, b, c, d] (0 + 1 + 1 + 1) = d := rfl
  have ha' := ha
  have hb' := hb
  have hc' := hc
  have hd' := hd
  unfold Byt at ha' hb' hc' hd'
  have f : trothref01_Get.f (k + 1 + 1 + 1 + 1 + 1 + 1) [a, b, c, d] = trothref01_Get.l0 (k + 1 + 1 + 1 + 1 + 1) [a, b, c, d] 0 0 := by
    unfold trothref01_Get.f
    rw [if_neg (by simp), decide_eq_false (by simp)]
    simp only [trothref01_Get.j0]
    rw [if_neg (by simp)]
  rw [f, g0 _ _ _ _ (by omega) (by rw [r0]; exact ha) (by omega) (by simp) (by omega), r0]
  rw [g0 _ _ _ _ (by omega) (by rw [r1]; exact hb) (by omega) (by simp) (by omega), r1]
  rw [g0 _ _ _ _ (by omega) (by rw [r2]; exact hc) (by omega) (by simp) (by omega), r2]
  rw [g0 _ _ _ _ (by omega) (by rw [r3]; exact hd) (by omega) (by simp) (by omega), r3]
  simp only [trothref01_Get.l0]
  rw [if_neg (by simp)]
  congr 2
  omega

theorem ref_right' (u l q : Int) (hq : 0 ≤ q) : trothref05_Right.f u l q = some (rightP u q) := by
  rw [← right_eq u l q]
  unfold luw_Right.f trothref05_Right.f
  have : (q != 0) = decide (q > 0) := by
    by_cases h : q = 0
    · subst h; rfl
    · rw [decide_eq_true (by omega)]; simpa using h
  rw [this]

theorem ref_write (u l q : Int) (h1 : U32b l) (h2 : U32b q) : trothref05_Write.f (9 + 1 + 1 + 1 + 1 + 1 + 1 + 1 + 1 + 1 + 1 + 1) u l q = luw_Write.f u l q := by
  unfold U32b at h1 h2
  rw [write_eq]
  unfold trothref05_Write.f
  rw [ref_right' _ _ _ h2.1, Option.bind_some]
  by_cases hr : rightP u q = true
  · have hr' := hr
    simp only [rightP, decide_eq_true_eq] at hr'
    rw [if_pos hr, if_pos hr, u64i u (by omega) (by omega), u64i l (by omega) (by omega), u64i q (by omega) (by omega), put_one u ⟨by omega, by omega⟩ _, put_four l h1 _, put_four q h2 _]
    simp [nine]
  · rw [if_neg hr, if_neg hr]

theorem ref_read (l1 : List Int) (hb : ∀ x ∈ l1, Byt x) : trothref05_Read.f (9 + 1 + 1 + 1 + 1 + 1 + 1 + 1 + 1 + 1 + 1 + 1) l1 = luw_Read.f l1 := by
  by_cases c1 : (l1.length : Int) < 9
  · unfold trothref05_Read.f luw_Read.f
    rw [if_pos c1, if_pos c1]
  · by_cases c2 : (l1.length : Int) > 9
    · unfold trothref05_Read.f luw_Read.f
      rw [if_neg c1, if_pos c2, if_neg c1, if_pos c2]
    · obtain ⟨b0, b1, b2, b3, b4, b5, b6, b7, b8, rfl⟩ := list_nine (l := l1) (by omega)
      simp only [List.mem_cons, List.not_mem_nil, or_false, forall_eq_or_imp, forall_eq] at hb
      obtain ⟨h0, h1, h2, h3, h4, h5, h6, h7, h8⟩ := hb
      rw [read_of_nine _ _ _ _ _ _ _ _ _ h0 h1 h2 h3 h4 h5 h6 h7 h8]
      have t1 : (List.take 5 [b0, b1, b2, b3, b4, b5, b6, b7, b8]).drop 1 = [b1, b2, b3, b4] := rfl
      have t2 : [b0, b1, b2, b3, b4, b5, b6, b7, b8].drop 5 = [b5, b6, b7, b8] := rfl
      have w0 : wrap64 (rd [b0, b1, b2, b3, b4, b5, b6, b7, b8] 0) = b0 := by
        show wrap64 b0 = b0
        unfold Byt at h0
        unfold wrap64
        omega
      unfold trothref05_Read.f
      rw [if_neg (by simp), if_neg (by simp), if_pos (by simp), if_pos (by simp), t1, t2, get_four _ _ _ _ h1 h2 h3 h4 _, Option.bind_some, get_four _ _ _ _ h5 h6 h7 h8 _, Option.bind_some, if_pos (by simp), w0]
      unfold Byt at h0 h1 h2 h3 h4 h5 h6 h7 h8
      simp only
      rw [show (b1 * 16777216 + b2 * 65536 + b3 * 256 + b4) % 4294967296 = b1 * 16777216 + b2 * 65536 + b3 * 256 + b4 by omega, show (b5 * 16777216 + b6 * 65536 + b7 * 256 + b8) % 4294967296 = b5 * 16777216 + b6 * 65536 + b7 * 256 + b8 by omega, ref_right' _ _ _ (by omega), Option.bind_some]
      split <;> rfl

/-- LuwWrites, plainly. -/
theorem luwWrites_plain (u l q : Int) (l1 : List Int) (h1 : U32b l) (h2 : U32b q) (hb : ∀ x ∈ l1, Byt x) : trothlaw05_LuwWrites.f (9 + 1 + 1 + 1 + 1 + 1 + 1 + 1 + 1 + 1 + 1 + 1) u l q l1 = some true := by
  unfold trothlaw05_LuwWrites.f
  rw [ref_write u l q h1 h2, ref_read l1 hb, alive_eq, right_eq, ref_right' _ _ _ h2.1]
  obtain ⟨n, hn⟩ : ∃ n, luw_Write.f u l q = some n := ⟨_, write_eq u l q⟩
  obtain ⟨m, hm⟩ : ∃ m, luw_Read.f l1 = some m := by
    rcases read_cases l1 hb with ⟨e, _, h⟩ | ⟨_, _, _, _, _, _, h, _⟩
    · exact ⟨_, h⟩
    · exact ⟨_, h⟩
  rw [hn, hm]
  simp

theorem writes_walk (u l q : Int) (A : Option Addr) (c : Nat) (l1 : List Int) (w : World) (h1 : (Lit.int .u32 l).wf = true) (h2 : (Lit.int .u32 q).wf = true) (hr : Go.Mine.RowR (fun _ y cs => cs = [Value.int .u8 y] ∧ (Lit.int .u8 y).wf = true) w w.heap.size 1 A l1) (hz : l1.length ≤ 9223372036854775807) (hc : l1.length ≤ c) :
    Calls Try.prog 3 #[.agg #[.int .i64 u, .int .u32 l, .int .u32 q], .slice A l1.length c] w fun e w' => e = .returned (.bool true) ∧ Below w.heap.size w w' := by
  have b1 := bounds_u32 h1
  have b2 := bounds_u32 h2
  obtain ⟨hC, hB⟩ := bytes_of hr hz
  exact trothlaw05_LuwWrites.calls _ u l q A c l1 true w hC hc rfl (luwWrites_plain u l q l1 ⟨by omega, by omega⟩ ⟨by omega, by omega⟩ hB)

end Go.Proofs.Ytlbajagnfmbljaa.Q
