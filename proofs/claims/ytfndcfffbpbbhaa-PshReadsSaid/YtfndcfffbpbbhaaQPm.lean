/- luw, plainly: what the document says. -/
import Derived.Test.YtfndcfffbpbbhaaQPg
import Derived.Test.YtfndcfffbpbbhaaQx15
import Derived.IntWalk
import Derived.OpenShut
namespace Go.Proofs.Ytfndcfffbpbbhaa.Q
open Go.RowKit Go.Proofs.YtfndcfffbpbbhaaW.PrintWords Go.Proofs.YtfndcfffbpbbhaaW.PrintLast Go.Proofs.YtfndcfffbpbbhaaW.PrintMore
set_option linter.unusedVariables false
set_option linter.unusedSimpArgs false
theorem g0 (k : Nat) (l : List Int) (x i : Int) (hx : 0 ≤ x ∧ x < 16777216) (hr : Byt (rd l i)) (h0 : 0 ≤ i) (hi : i < (l.length : Int)) (h1 : i + 1 ≤ 9) : trothref01_Get.l0 (k + 1) l x i = trothref01_Get.l0 k l (256 * x + rd l i) (i + 1) := by
 unfold Byt at hr
 simp only [trothref01_Get.l0]
 rw [if_pos hi, if_pos h0, W9 _ (by omega) h1, u64i (256 * x) (by omega) (by omega), u64i (rd l i) (by omega) (by omega), u64i _ (by omega) (by omega)]
theorem get_four (a b c d : Int) (ha : Byt a) (hb : Byt b) (hc : Byt c) (hd : Byt d) (k : Nat) : trothref01_Get.f (k + 1 + 1 + 1 + 1 + 1 + 1) [a, b, c, d] = some (a * 16777216 + b * 65536 + c * 256 + d, 0) := by
 have r0 : rd [a, b, c, d] 0 = a := rfl
 have r1 : rd [a, b, c, d] (0 + 1) = b := rfl
 have r2 : rd [a, b, c, d] (0 + 1 + 1) = c := rfl
 have r3 : rd [a, b, c, d] (0 + 1 + 1 + 1) = d := rfl
 have ha' := ha
 have hb' := hb
 have hc' := hc
 have hd' := hd
 unfold Byt at ha' hb' hc' hd'
 have f : trothref01_Get.f (k + 1 + 1 + 1 + 1 + 1 + 1) [a, b, c, d] = trothref01_Get.l0 (k + 1 + 1 + 1 + 1 + 1) [a, b, c, d] 0 0 := by
  unfold trothref01_Get.f
  rw [if_neg (by simp), decide_eq_false (by simp)]
  simp only [trothref01_Get.j0]
  rw [if_neg (by simp)]
 rw [f, g0 _ _ _ _ (by omega) (by rw [r0]; exact ha) (by omega) (by simp) (by omega), r0]
 rw [g0 _ _ _ _ (by omega) (by rw [r1]; exact hb) (by omega) (by simp) (by omega), r1]
 rw [g0 _ _ _ _ (by omega) (by rw [r2]; exact hc) (by omega) (by simp) (by omega), r2]
 rw [g0 _ _ _ _ (by omega) (by rw [r3]; exact hd) (by omega) (by simp) (by omega), r3]
 simp only [trothref01_Get.l0]
 rw [if_neg (by simp)]
 congr 2
 omega
theorem ref_lread (k : Nat) (l1 : List Int) (hb : ∀ x ∈ l1, Byt x) : trothref05_Read.f (k + 1 + 1 + 1 + 1 + 1 + 1 + 1 + 1 + 1 + 1 + 1) l1 = luw_Read.f l1 := by
 by_cases c1 : (l1.length : Int) < 9
 ·unfold trothref05_Read.f luw_Read.f
  rw [if_pos c1, if_pos c1]
 ·by_cases c2 : (l1.length : Int) > 9
  ·unfold trothref05_Read.f luw_Read.f
   rw [if_neg c1, if_pos c2, if_neg c1, if_pos c2]
  ·obtain ⟨b0, b1, b2, b3, b4, b5, b6, b7, b8, rfl⟩ := list_nine (l := l1) (by omega)
   simp only [List.mem_cons, List.not_mem_nil, or_false, forall_eq_or_imp, forall_eq] at hb
   obtain ⟨h0, h1, h2, h3, h4, h5, h6, h7, h8⟩ := hb
   rw [read_of_nine _ _ _ _ _ _ _ _ _ h0 h1 h2 h3 h4 h5 h6 h7 h8]
   have t1 : (List.take 5 [b0, b1, b2, b3, b4, b5, b6, b7, b8]).drop 1 = [b1, b2, b3, b4] := rfl
   have t2 : [b0, b1, b2, b3, b4, b5, b6, b7, b8].drop 5 = [b5, b6, b7, b8] := rfl
   have w0 : wrap64 (rd [b0, b1, b2, b3, b4, b5, b6, b7, b8] 0) = b0 := by
    show wrap64 b0 = b0
    unfold Byt at h0
    unfold wrap64
    omega
   unfold trothref05_Read.f
   rw [if_neg (by simp), if_neg (by simp), if_pos (by simp), if_pos (by simp), t1, t2, get_four _ _ _ _ h1 h2 h3 h4 _, Option.bind_some, get_four _ _ _ _ h5 h6 h7 h8 _, Option.bind_some, if_pos (by simp), w0]
   unfold Byt at h0 h1 h2 h3 h4 h5 h6 h7 h8
   simp only
   rw [show (b1 * 16777216 + b2 * 65536 + b3 * 256 + b4) % 4294967296 = b1 * 16777216 + b2 * 65536 + b3 * 256 + b4 by omega, show (b5 * 16777216 + b6 * 65536 + b7 * 256 + b8) % 4294967296 = b5 * 16777216 + b6 * 65536 + b7 * 256 + b8 by omega, ref_right' _ _ _ (by omega), Option.bind_some]
   split <;> rfl
end Go.Proofs.Ytfndcfffbpbbhaa.Q
