/- Walk of trothref12.Ints at two slices that read as one list: it answers true. Slices of the call's own, read. -/
import Derived.Test.YtgfiifhnnjammaaLockF
import Derived.Test.YtgfiifhnnjammaaLock7
namespace Go.Proofs.Ytgfiifhnnjammaa
open Go.RowKit Go.Mine Go.Proofs.YtgfiifhnnjammaaW.PrintWords
set_option linter.unusedVariables false
set_option linter.unusedSimpArgs false

theorem intsAt_own {w : World} {base : Nat} {v : Value} {l : List Int} (h : w.ownsRow base 3 1 v l.length (nums .i64 l)) : ∃ A c, v = .slice A l.length c ∧ IntsAt w w.heap.size A l := by
  have ho := h
  rcases h.2 with ⟨hv, h0⟩ | ⟨g, cap, cur, hv, hg, hh, h1, h2, h3, h4⟩
  · have hl : l = [] := by first | exact List.eq_nil_of_length_eq_zero h0 | simpa [nums] using h0
    subst hl
    exact ⟨none, 0, hv, fun i x hx => by simp at hx⟩
  · refine ⟨_, cap, hv, fun i x hx => ⟨g, 0, rfl, (Array.getElem?_eq_some_iff.1 hh).1, ?_⟩⟩
    have h6 : (nums .i64 l)[i]? = some (.int .i64 x) := by simp [nums, hx]
    have := ho.cells (g := g) (by rw [hv]; simp [Value.ownBlock]) _ _ h6
    rw [add_plain] at this
    rw [Nat.zero_add]
    exact this

set_option maxHeartbeats 1000000 in
theorem ints_same (A A' : Option Addr) (xs : List Int) (c c' : Nat) (w : World) {B B' : Nat} (h : IntsAt w B A xs) (h' : IntsAt w B' A' xs) (hn : xs.length ≤ 1000000) :
    Calls Try.prog 19 #[.slice A xs.length c, .slice A' xs.length c'] w fun e w' => e = .returned (.bool true) ∧ ∃ n, w' = w.drewN n := by
  go_enter Try.func19, Try.ntmps19
  go_wp2_with fail
  go_loopg [5] (xs.length + 1) (fun n v wr => ∃ i : Nat, v = .int .i64 i ∧ i ≤ xs.length ∧ n = xs.length + 1 - i ∧ ∃ m, wr = w.drewN m)
  case atStart => exact ⟨0, rfl, Nat.zero_le _, rfl, 0, rfl⟩
  case round =>
    obtain ⟨i, rfl, hi, hn', m, hm⟩ := hrel
    subst hm
    have HN := hid hn'
    clear hn'
    by_cases h1 : i < xs.length
    · obtain ⟨x, hx⟩ : ∃ x, xs[i]? = some x := ⟨_, List.getElem?_eq_getElem h1⟩
      obtain ⟨b, off, rfl, hb, hc⟩ := h i x hx
      obtain ⟨b', off', rfl, hb', hc'⟩ := h' i x hx
      clear h h' hx
      go_wp2_with fail
      have d : (x != x) = false := by simp
      go_quiet (fail)
      go_wp2_with fail
      go_roundg (xs.length + 1 - (i + 1))
      case measure => rw [HN.out]; omega
      case rel => exact ⟨i + 1, by go_num, by omega, rfl, _, rfl⟩
    · go_wp2_with fail
      go_ret
      exact ⟨rfl, m, rfl⟩
end Go.Proofs.Ytgfiifhnnjammaa
