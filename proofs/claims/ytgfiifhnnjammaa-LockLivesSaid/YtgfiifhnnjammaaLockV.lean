/- The two tables of LockLives, side by side. -/
import Derived.Test.YtgfiifhnnjammaaLockZ
namespace Go.Proofs.Ytgfiifhnnjammaa
open Go.RowKit Go.Mine Go.Proofs.YtgfiifhnnjammaaW.PrintWords
set_option linter.unusedVariables false
set_option linter.unusedSimpArgs false
def LS (w0 w : World) (F : Nat → Prop) (b0 b1 : Nat) (v : Value) (A1 A2 : LTab) : Prop :=
  Tbl w F b0 A1 ∧ RT w b1 v A2 ∧ (∀ i, F i → i < w.heap.size ∧ w0.heap.size ≤ i ∧ i ≠ b1 ∧ v.ownBlock ≠ some i) ∧ w0.heap.size ≤ b1 ∧ (∀ k, v.ownBlock = some k → w0.heap.size ≤ k) ∧ Below w0.heap.size w0 w
section
variable {w0 w w' : World} {F : Nat → Prop} {b0 b1 : Nat} {v v' : Value} {A1 A2 A1' A2' : LTab}
theorem LS.below (h : LS w0 w F b0 b1 v A1 A2) (hb : Below w.heap.size w w') : LS w0 w' F b0 b1 v A1 A2 := by
  obtain ⟨h1, h2, h3, h4, h5, h6⟩ := h
  exact ⟨h1.below hb, h2.below hb, fun i hi => ⟨Nat.lt_of_lt_of_le (h3 i hi).1 hb.size, (h3 i hi).2⟩, h4, h5, h6.trans (hb.mono h6.size)⟩
theorem LS.one (h : LS w0 w F b0 b1 v A1 A2) (ht : Tbl w' (grow F w) b0 A1') (hf : Fr F w w') : LS w0 w' (fun i => grow F w i ∧ i < w'.heap.size) b0 b1 v A1' A2 := by
  obtain ⟨h1, h2, h3, h4, h5, h6⟩ := h
  refine ⟨ht.bound, h2.fr hf (fun q => (h3 _ q).2.2.1 rfl) (fun k hk q => (h3 _ q).2.2.2 hk), fun i hi => ?_, h4, h5, h6.trans (hf.below h6.size (fun k hk q => by have := (h3 k q).2.1; omega))⟩
  obtain ⟨hg, hlt⟩ := hi
  rcases hg with q | q
  · exact ⟨hlt, (h3 i q).2⟩
  · have hb1 := h2.lt
    have h6s := h6.size
    refine ⟨hlt, by omega, by omega, fun e => ?_⟩
    have := h2.2.lt i e
    omega
theorem LS.two (h : LS w0 w F b0 b1 v A1 A2) (hr : RT w' b1 v' A2') (ho : ∀ j, v'.ownBlock = some j → v.ownBlock = some j ∨ w.heap.size ≤ j) (hf : Fr (fun i => i = b1) w w') : LS w0 w' F b0 b1 v' A1 A2' := by
  obtain ⟨h1, h2, h3, h4, h5, h6⟩ := h
  refine ⟨h1.fr hf (fun i hi q => (h3 i hi).2.2.1 q), hr, fun i hi => ⟨Nat.lt_of_lt_of_le (h3 i hi).1 hf.size, (h3 i hi).2.1, (h3 i hi).2.2.1, fun e => ?_⟩, h4, fun k hk => ?_, h6.trans (hf.below h6.size (fun k hk q => by omega))⟩
  · rcases ho i e with q | q
    · exact (h3 i hi).2.2.2 q
    · have := (h3 i hi).1; omega
  · rcases ho k hk with q | q
    · exact h5 k q
    · exact Nat.le_trans h6.size q
end
end Go.Proofs.Ytgfiifhnnjammaa
