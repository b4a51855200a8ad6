/- PshCut, plainly: too many bytes, and too few. -/
import Derived.Test.YtfndcfffbpbbhaaQPl
namespace Go.Proofs.Ytfndcfffbpbbhaa.Q
open Go.RowKit Go.Proofs.YtfndcfffbpbbhaaW.PrintWords Go.Proofs.YtfndcfffbpbbhaaW.PrintLast Go.Proofs.YtfndcfffbpbbhaaW.PrintMore
set_option linter.unusedVariables false
set_option linter.unusedSimpArgs false
theorem frame_write {a b c d : Int} {m : Bool} {x y : Int} (hr : rightM a b c d m x y = true) : gds_Write.f (4864 + a) (dataM a b c d m x y) 2048 = some (frameM a b c d m x y, 0) := by
  have hk := right_kind hr
  have hlen := data_len a b c d m x y
  exact gds_small (a := a) (data := dataM a b c d m x y) (by omega) (by rw [hlen]; split <;> (try split) <;> omega)
/-- Bytes behind a message: one message too many. -/
theorem read_more {a b c d : Int} {m : Bool} {x y : Int} (hr : rightM a b c d m x y = true) (hx : U32b x) (hy : U32b y) {more : List Int} (hm : Bytes more) (h0 : 0 < more.length) (hl : more.length ≤ 1000) :
    psh_Read.f (frameM a b c d m x y ++ more) = some (0, 0, 0, 0, false, 0, 0, 2) := by
  have hlen := data_len a b c d m x y
  have hl10 : (dataM a b c d m x y).length ≤ 10 := by rw [hlen]; split <;> (try split) <;> omega
  have hfl : (frameM a b c d m x y).length = (dataM a b c d m x y).length + 4 := by simp [frameM]
  unfold psh_Read.f
  rw [gds_next ((frame_bytes hx hy hr).app hm) (by rw [List.length_append]; omega) (by omega), Option.bind_some, back_next (frame_write hr) more]
  simp only
  rw [if_neg (by omega), if_neg (by simp), if_pos (by rw [List.length_append]; omega)]
/-- A message cut short. -/
theorem read_cut_short {a b c d : Int} {m : Bool} {x y : Int} (hr : rightM a b c d m x y = true) (hx : U32b x) (hy : U32b y) {n : Nat} (hn : n < (frameM a b c d m x y).length) :
    psh_Read.f ((frameM a b c d m x y).take n) = some (0, 0, 0, 0, false, 0, 0, 11) := by
  have hlen := data_len a b c d m x y
  have hl10 : (dataM a b c d m x y).length ≤ 10 := by rw [hlen]; split <;> (try split) <;> omega
  have hfl : (frameM a b c d m x y).length = (dataM a b c d m x y).length + 4 := by simp [frameM]
  unfold psh_Read.f
  rw [gds_next ((frame_bytes hx hy hr).take n) (by rw [List.length_take]; omega) (by omega), Option.bind_some, cut_next (frame_write hr) hn]
  simp only
  rw [if_neg (by simp), if_pos (by decide)]
end Go.Proofs.Ytfndcfffbpbbhaa.Q
