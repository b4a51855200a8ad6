/- oct.Put of four bytes: what the call gives. -/
import Derived.Test.YtfndcfffbpbbhaaQx0
import Derived.Test.YtfndcfffbpbbhaaProg
import Derived.Lib.Hide
namespace Go.Proofs.Ytfndcfffbpbbhaa.Q
open Go.RowKit Go.Proofs.YtfndcfffbpbbhaaW.PrintWords Go.Proofs.YtfndcfffbpbbhaaW.PrintLast Go.Proofs.YtfndcfffbpbbhaaW.PrintMore
set_option linter.unusedVariables false
set_option linter.unusedSimpArgs false

def fourOf (a0 : Int) : List Int := [a0 / 16777216 % 256, a0 / 65536 % 256, a0 / 256 % 256, a0 % 256]
def oct_Put.f (a0 : Int) (a1 : Int) : Option (List Int × Int) := if a1 = 4 ∧ 0 ≤ a0 ∧ a0 < 4294967296 then some (fourOf a0, 0) else none
/-- The row behind k rounds. -/
def rowOf (a0 : Int) (k : Nat) : List Int := [if 3 < k then a0 / 16777216 % 256 else 0, if 2 < k then a0 / 65536 % 256 else 0, if 1 < k then a0 / 256 % 256 else 0, if 0 < k then a0 % 256 else 0]

set_option maxHeartbeats 2000000 in
theorem oct_put4 (a0 : Int) (w : World) (h0 : 0 ≤ a0) (h1 : a0 < 4294967296) :
    Calls Try.prog 18 #[.int .u64 a0, .int .i64 4] w fun e w' => ∃ v0_ : Value, e = .returned (.tuple #[v0_, .int .i64 0]) ∧ Kd.R (Kd.int .u8) 5 w' w.heap.size (fun _ => True) v0_ (fourOf a0) ∧ Below w.heap.size w w' := by
  have hmk : ∀ w, (Instr.makeSlice 27 (.int .i64 4) (.int .i64 4)).run Try.prog w = .ok (.slice (some ⟨w.heap.size, 0, none⟩) 4 4) (w.alloc (.cells #[.int .u8 0, .int .u8 0, .int .u8 0, .int .u8 0] 5)) := fun _ => by kernel_rfl
  go_enter Try.func18, Try.ntmps18
  go_wp2
  obtain ⟨g, hg⟩ : ∃ g, w.heap.size = g := ⟨_, rfl⟩
  have hB0 : Below g w (w.alloc (.cells #[.int .u8 0, .int .u8 0, .int .u8 0, .int .u8 0] 5)) := hg ▸ (Below.refl _ _).alloc (Nat.le_refl _) _
  have hh0 : (w.alloc (.cells #[.int .u8 0, .int .u8 0, .int .u8 0, .int .u8 0] 5)).heap[g]? = some (.cells #[.int .u8 0, .int .u8 0, .int .u8 0, .int .u8 0] 5 (0, 0)) := hg ▸ heap_alloc_new w _
  have Hg := Lib.hid hg
  rw [hg]
  clear hg
  go_loopg [27] 5 (fun n v wr => ∃ k : Nat, k ≤ 4 ∧ v = .int .i64 k ∧ n = 5 - k ∧ wr.heap[g]? = some (.cells ((nums .u8 (rowOf a0 k)).toArray) 5 (0, 0)) ∧ Below g w wr)
  case atStart => exact ⟨0, by omega, rfl, rfl, hh0, hB0⟩
  case round =>
    obtain ⟨k, hk, rfl, hn, hh, hB⟩ := hrel
    have HN := Lib.hid hn
    clear hn hh0 hB0
    have hk2 : k = 0 ∨ k = 1 ∨ k = 2 ∨ k = 3 ∨ k = 4 := by omega
    clear hk
    rcases hk2 with rfl | rfl | rfl | rfl | rfl
    all_goals
      simp only [rowOf, nums, List.map_cons, List.map_nil, Nat.lt_irrefl, if_true, if_false, Nat.reduceLT] at hh
    · have hc := blk_cell hh 3
      have hf := blk_frozen hh 3
      go_wp2
      go_roundg 4
      case rel => exact ⟨1, by omega, rfl, rfl, blk_put hh 3 _ (by simp [rowOf, nums] <;> omega), hB.setCell (p := ⟨g, 3, none⟩) (Nat.le_refl _) _⟩
      case measure => rw [HN.out]; omega
    · have hc := blk_cell hh 2
      have hf := blk_frozen hh 2
      go_wp2
      go_roundg 3
      case rel => exact ⟨2, by omega, rfl, rfl, blk_put hh 2 _ (by simp [rowOf, nums] <;> omega), hB.setCell (p := ⟨g, 2, none⟩) (Nat.le_refl _) _⟩
      case measure => rw [HN.out]; omega
    · have hc := blk_cell hh 1
      have hf := blk_frozen hh 1
      go_wp2
      go_roundg 2
      case rel => exact ⟨3, by omega, rfl, rfl, blk_put hh 1 _ (by simp [rowOf, nums] <;> omega), hB.setCell (p := ⟨g, 1, none⟩) (Nat.le_refl _) _⟩
      case measure => rw [HN.out]; omega
    · have hc := blk_cell hh 0
      have hf := blk_frozen hh 0
      go_wp2
      go_roundg 1
      case rel => exact ⟨4, by omega, rfl, rfl, blk_put hh 0 _ (by simp [rowOf, nums] <;> omega), hB.setCell (p := ⟨g, 0, none⟩) (Nat.le_refl _) _⟩
      case measure => rw [HN.out]; omega
    · go_wp2
      go_ret2
      have Hg' := Hg.out
      refine ⟨_, rfl, ?_, by rw [Hg']; exact hB⟩
      refine Kd.R_of_own (xs := fourOf a0) (e := 5) ?_ (fun _ _ => trivial)
      rw [Hg']
      refine ⟨rfl, .inr ⟨g, 4, _, rfl, Nat.le_refl _, hh, Nat.le_refl _, by unfold maxLen; omega, rfl, rfl⟩⟩
theorem oct_Put.calls (a0 : Int) (a1 : Int) (r1 : List Int) (r2 : Int) (w : World) (h : oct_Put.f a0 a1 = some (r1, r2)) :
    Calls Try.prog 18 #[.int .u64 a0, .int .i64 a1] w fun e w' => ∃ v0_ : Value, e = .returned (.tuple #[v0_, .int .i64 r2]) ∧ Kd.R (Kd.int .u8) 5 w' w.heap.size (fun _ => True) v0_ r1 ∧ Below w.heap.size w w' := by
  unfold oct_Put.f at h
  split at h
  · rename_i hc
    obtain ⟨rfl, h0, h1⟩ := hc
    cases h
    exact oct_put4 a0 w h0 h1
  · cases h
end Go.Proofs.Ytfndcfffbpbbhaa.Q
