/- Texts of this seat, put together: RyH. -/
import Derived.Test.YtdejbinmnoabeaaBd12
import Derived.Test.YtdejbinmnoabeaaProg
import Derived.Lib.Hide
namespace Go.Proofs.Ytdejbinmnoabeaa.P
open Go.RowKit Go.Proofs.YtdejbinmnoabeaaW.PrintWords Go.Proofs.YtdejbinmnoabeaaW.PrintLast Go.Proofs.YtdejbinmnoabeaaW.PrintMore
set_option linter.unusedVariables false
set_option linter.unusedSimpArgs false
def be8 (a0 : Int) : List Int := [a0 / 72057594037927936 % 256, a0 / 281474976710656 % 256, a0 / 1099511627776 % 256, a0 / 4294967296 % 256, a0 / 16777216 % 256, a0 / 65536 % 256, a0 / 256 % 256, a0 % 256]
def oct_Put.f (a0 : Int) (a1 : Int) : Option (List Int × Int) := if a1 = 8 ∧ 0 ≤ a0 ∧ a0 < 18446744073709551616 then some (be8 a0, 0) else none
def rowOf (a0 : Int) (k : Nat) : List Int := [if 7 < k then a0 / 72057594037927936 % 256 else 0, if 6 < k then a0 / 281474976710656 % 256 else 0, if 5 < k then a0 / 1099511627776 % 256 else 0, if 4 < k then a0 / 4294967296 % 256 else 0, if 3 < k then a0 / 16777216 % 256 else 0, if 2 < k then a0 / 65536 % 256 else 0, if 1 < k then a0 / 256 % 256 else 0, if 0 < k then a0 % 256 else 0]
set_option maxRecDepth 100000 in
set_option maxHeartbeats 4000000 in
theorem oct_put8 (a0 : Int) (w : World) (h0 : 0 ≤ a0) (h1 : a0 < 18446744073709551616) :
    Calls Try.prog 29 #[.int .u64 a0, .int .i64 8] w fun e w' => ∃ v0_ : Value, e = .returned (.tuple #[v0_, .int .i64 0]) ∧ Kd.R (Kd.int .u8) 5 w' w.heap.size (fun _ => True) v0_ (be8 a0) ∧ Below w.heap.size w w' := by
  have hmk : ∀ w, (Instr.makeSlice 23 (.int .i64 8) (.int .i64 8)).run Try.prog w = .ok (.slice (some ⟨w.heap.size, 0, none⟩) 8 8) (w.alloc (.cells #[.int .u8 0, .int .u8 0, .int .u8 0, .int .u8 0, .int .u8 0, .int .u8 0, .int .u8 0, .int .u8 0] 5)) := fun _ => by kernel_rfl
  go_enter Try.func29, Try.ntmps29
  go_wp2
  obtain ⟨g, hg⟩ : ∃ g, w.heap.size = g := ⟨_, rfl⟩
  have hB0 : Below g w (w.alloc (.cells #[.int .u8 0, .int .u8 0, .int .u8 0, .int .u8 0, .int .u8 0, .int .u8 0, .int .u8 0, .int .u8 0] 5)) := hg ▸ (Below.refl _ _).alloc (Nat.le_refl _) _
  have hh0 : (w.alloc (.cells #[.int .u8 0, .int .u8 0, .int .u8 0, .int .u8 0, .int .u8 0, .int .u8 0, .int .u8 0, .int .u8 0] 5)).heap[g]? = some (.cells #[.int .u8 0, .int .u8 0, .int .u8 0, .int .u8 0, .int .u8 0, .int .u8 0, .int .u8 0, .int .u8 0] 5 (0, 0)) := hg ▸ heap_alloc_new w _
  have Hg := Lib.hid hg
  rw [hg]
  clear hg
  go_loopg [27] 9 (fun n v wr => ∃ k : Nat, k ≤ 8 ∧ v = .int .i64 k ∧ n = 9 - k ∧ wr.heap[g]? = some (.cells ((nums .u8 (rowOf a0 k)).toArray) 5 (0, 0)) ∧ Below g w wr)
  case atStart => exact ⟨0, by omega, rfl, rfl, hh0, hB0⟩
  case round =>
    obtain ⟨k, hk, rfl, hn, hh, hB⟩ := hrel
    have HN := Lib.hid hn
    clear hn hh0 hB0
    have hk2 : k = 0 ∨ k = 1 ∨ k = 2 ∨ k = 3 ∨ k = 4 ∨ k = 5 ∨ k = 6 ∨ k = 7 ∨ k = 8 := by omega
    clear hk
    rcases hk2 with rfl | rfl | rfl | rfl | rfl | rfl | rfl | rfl | rfl
    all_goals
      simp only [rowOf, nums, List.map_cons, List.map_nil, Nat.lt_irrefl, if_true, if_false, Nat.reduceLT] at hh
    · have hc := blk_cell hh 7
      have hf := blk_frozen hh 7
      go_wp2
      go_roundg 8
      case rel => exact ⟨1, by omega, rfl, rfl, blk_put hh 7 _ (by simp [rowOf, nums] <;> omega), hB.setCell (p := ⟨g, 7, none⟩) (Nat.le_refl _) _⟩
      case measure => rw [HN.out]; omega
    · have hc := blk_cell hh 6
      have hf := blk_frozen hh 6
      go_wp2
      go_roundg 7
      case rel => exact ⟨2, by omega, rfl, rfl, blk_put hh 6 _ (by simp [rowOf, nums] <;> omega), hB.setCell (p := ⟨g, 6, none⟩) (Nat.le_refl _) _⟩
      case measure => rw [HN.out]; omega
    · have hc := blk_cell hh 5
      have hf := blk_frozen hh 5
      go_wp2
      go_roundg 6
      case rel => exact ⟨3, by omega, rfl, rfl, blk_put hh 5 _ (by simp [rowOf, nums] <;> omega), hB.setCell (p := ⟨g, 5, none⟩) (Nat.le_refl _) _⟩
      case measure => rw [HN.out]; omega
    · have hc := blk_cell hh 4
      have hf := blk_frozen hh 4
      go_wp2
      go_roundg 5
      case rel => exact ⟨4, by omega, rfl, rfl, blk_put hh 4 _ (by simp [rowOf, nums] <;> omega), hB.setCell (p := ⟨g, 4, none⟩) (Nat.le_refl _) _⟩
      case measure => rw [HN.out]; omega
    · have hc := blk_cell hh 3
      have hf := blk_frozen hh 3
      go_wp2
      go_roundg 4
      case rel => exact ⟨5, by omega, rfl, rfl, blk_put hh 3 _ (by simp [rowOf, nums] <;> omega), hB.setCell (p := ⟨g, 3, none⟩) (Nat.le_refl _) _⟩
      case measure => rw [HN.out]; omega
    · have hc := blk_cell hh 2
      have hf := blk_frozen hh 2
      go_wp2
      go_roundg 3
      case rel => exact ⟨6, by omega, rfl, rfl, blk_put hh 2 _ (by simp [rowOf, nums] <;> omega), hB.setCell (p := ⟨g, 2, none⟩) (Nat.le_refl _) _⟩
      case measure => rw [HN.out]; omega
    · have hc := blk_cell hh 1
      have hf := blk_frozen hh 1
      go_wp2
      go_roundg 2
      case rel => exact ⟨7, by omega, rfl, rfl, blk_put hh 1 _ (by simp [rowOf, nums] <;> omega), hB.setCell (p := ⟨g, 1, none⟩) (Nat.le_refl _) _⟩
      case measure => rw [HN.out]; omega
    · have hc := blk_cell hh 0
      have hf := blk_frozen hh 0
      go_wp2
      go_roundg 1
      case rel => exact ⟨8, by omega, rfl, rfl, blk_put hh 0 _ (by simp [rowOf, nums] <;> omega), hB.setCell (p := ⟨g, 0, none⟩) (Nat.le_refl _) _⟩
      case measure => rw [HN.out]; omega
    · go_wp2
      go_ret2
      have Hg' := Hg.out
      refine ⟨_, rfl, ?_, by rw [Hg']; exact hB⟩
      refine Kd.R_of_own (xs := be8 a0) (e := 5) ?_ (fun _ _ => trivial)
      rw [Hg']
      refine ⟨rfl, .inr ⟨g, 8, _, rfl, Nat.le_refl _, hh, Nat.le_refl _, by unfold maxLen; omega, rfl, rfl⟩⟩
theorem oct_Put.calls (a0 : Int) (a1 : Int) (r1 : List Int) (r2 : Int) (w : World) (h : oct_Put.f a0 a1 = some (r1, r2)) :
    Calls Try.prog 29 #[.int .u64 a0, .int .i64 a1] w fun e w' => ∃ v0_ : Value, e = .returned (.tuple #[v0_, .int .i64 r2]) ∧ Kd.R (Kd.int .u8) 5 w' w.heap.size (fun _ => True) v0_ r1 ∧ Below w.heap.size w w' := by
  unfold oct_Put.f at h
  split at h
  · rename_i hc
    obtain ⟨rfl, h0, h1⟩ := hc
    cases h
    exact oct_put8 a0 w h0 h1
  · cases h
end Go.Proofs.Ytdejbinmnoabeaa.P
