/- Walks of trothref14.Same and trothref13.SameChanges at rows that are equal. -/
import Derived.Test.YtdejbinmnoabeaaQuT
namespace Go.Proofs.Ytdejbinmnoabeaa.Q
open Go.RowKit Go.Mine Go.Proofs.YtdejbinmnoabeaaW.PrintWords
set_option linter.unusedVariables false
set_option linter.unusedSimpArgs false
set_option maxRecDepth 100000 in
set_option maxHeartbeats 2000000 in
theorem same_any (A A' : Option Addr) (l : List Int) (c c' B : Nat) (w : World) (h : UAt w B A l) (h' : UAt w B A' l) (hn : l.length ≤ 1000000) :
    Calls Try.prog 38 #[.slice A l.length c, .slice A' l.length c'] w fun e w' => e = .returned (.bool true) ∧ ∃ q, w' = w.drewN q := by
  have H := hid h
  have H' := hid h'
  clear h h'
  go_enter Try.func38, Try.ntmps38
  go_wp2_with fail
  go_loopg [5] (l.length + 1) (fun m v wr => ∃ i : Nat, v = .int .i64 i ∧ i ≤ l.length ∧ m = l.length + 1 - i ∧ ∃ q, wr = w.drewN q)
  case atStart => exact ⟨0, rfl, Nat.zero_le _, rfl, 0, rfl⟩
  case round =>
    obtain ⟨i, rfl, hi, hm, q, hq⟩ := hrel
    have HN := hid hm
    clear hm
    by_cases h1 : i < l.length
    · obtain ⟨y, hy⟩ : ∃ y, l[i]? = some y := ⟨_, List.getElem?_eq_getElem h1⟩
      obtain ⟨b, off, rfl, _, hc⟩ := H.out i y hy
      obtain ⟨b', off', rfl, _, hc'⟩ := H'.out i y hy
      have k0 : wr.cell? ⟨b, off + i, none⟩ = some (.int .u64 y) := by rw [hq]; have := hc 0 _ rfl; simpa using this
      have k1 : wr.cell? ⟨b', off' + i, none⟩ = some (.int .u64 y) := by rw [hq]; have := hc' 0 _ rfl; simpa using this
      have dy : (y != y) = false := by simp
      have HQ := hid hq
      clear hc hc' hy hq
      go_wp2_with fail
      go_quiet (fail)
      go_wp2_with fail
      go_roundg (l.length + 1 - (i + 1))
      case measure => rw [HN.out]; omega
      case rel => exact ⟨i + 1, by go_num, by omega, rfl, _, by rw [HQ.out]; exact drewN_two _ _ _⟩
    · go_wp2_with fail
      go_ret
      first | exact ⟨rfl, q, rfl⟩ | exact ⟨rfl, q, hq⟩
theorem same_n {A A' : Option Addr} {l : List Int} {c c' B N : Nat} {w : World} (hN : l.length = N) (h : UAt w B A l) (h' : UAt w B A' l) (hn : N ≤ 1000000) :
    Calls Try.prog 38 #[.slice A N c, .slice A' N c'] w fun e w' => e = .returned (.bool true) ∧ ∃ q, w' = w.drewN q := by
  subst hN
  exact same_any A A' l c c' B w h h' hn
theorem UAt.up2 {w w' : World} {A : Option Addr} {l : List Int} (h : UAt w w.heap.size A l) (hb : Below w.heap.size w w') : UAt w' w'.heap.size A l := (RowAt.below h hb).up hb.size
set_option maxRecDepth 100000 in
set_option maxHeartbeats 2000000 in
theorem samech_any (A A' : Option Addr) (l : List Ch) (c c' B : Nat) (w : World) (h : ChAt w B A l) (h' : ChAt w B A' l) (hn : l.length ≤ 1000000) :
    Calls Try.prog 13 #[.slice A l.length c, .slice A' l.length c'] w fun e w' => e = .returned (.bool true) ∧ ∃ q, w' = w.drewN q := by
  have H := hid h
  have H' := hid h'
  clear h h'
  go_enter Try.func13, Try.ntmps13
  go_wp2_with fail
  go_loopg [5] (l.length + 1) (fun m v wr => ∃ i : Nat, v = .int .i64 i ∧ i ≤ l.length ∧ m = l.length + 1 - i ∧ ∃ q, wr = w.drewN q)
  case atStart => exact ⟨0, rfl, Nat.zero_le _, rfl, 0, rfl⟩
  case round =>
    obtain ⟨i, rfl, hi, hm, q, hq⟩ := hrel
    have HN := hid hm
    have HQ := hid hq
    by_cases h1 : i < l.length
    · obtain ⟨y, hy⟩ : ∃ y, l[i]? = some y := ⟨_, List.getElem?_eq_getElem h1⟩
      obtain ⟨b, off, rfl, hb, hc⟩ := H.out i y hy
      obtain ⟨b', off', rfl, hb', hc'⟩ := H'.out i y hy
      have k0 : wr.cell? ⟨b, off + i * 3, none⟩ = some (.int .i64 y.kind) := by rw [hq]; exact hc 0 _ rfl
      have k1 : wr.cell? ⟨b, off + i * 3 + 1, none⟩ = some (.int .i64 y.key) := by rw [hq]; exact hc 1 _ rfl
      have k2 : wr.cell? ⟨b, off + i * 3 + 2, none⟩ = some (.int .u64 y.val) := by rw [hq]; exact hc 2 _ rfl
      have m0 : wr.cell? ⟨b', off' + i * 3, none⟩ = some (.int .i64 y.kind) := by rw [hq]; exact hc' 0 _ rfl
      have m1 : wr.cell? ⟨b', off' + i * 3 + 1, none⟩ = some (.int .i64 y.key) := by rw [hq]; exact hc' 1 _ rfl
      have m2 : wr.cell? ⟨b', off' + i * 3 + 2, none⟩ = some (.int .u64 y.val) := by rw [hq]; exact hc' 2 _ rfl
      clear hm hq hc hc' hy
      go_wp2_with fail
      go_quiet (fail)
      go_wp2_with fail
      go_roundg (l.length + 1 - (i + 1))
      case measure => rw [HN.out]; omega
      case rel => exact ⟨i + 1, by go_num, by omega, rfl, _, by rw [HQ.out]; exact drewN_two _ _ _⟩
    · clear hm hq
      go_wp2_with fail
      go_ret
      exact ⟨rfl, q, HQ.out⟩
end Go.Proofs.Ytdejbinmnoabeaa.Q
