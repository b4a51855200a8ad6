/- The document's store in memory: a work is turned. -/
import Derived.Test.YtekebjcknhjceaaKvD4
namespace Go.Proofs.Ytekebjcknhjceaa
open Go.RowKit Go.Mine Go.Proofs.YtekebjcknhjceaaW.PrintWords
set_option linter.unusedVariables false
set_option linter.unusedSimpArgs false
section
variable {F : Nat → Prop} {w w' : World} {b1 : Nat} {L : List (Int × Int)} {I1 I2 : List WI} {x : WI} {lk : LTab} {pv qv tv : Value}
/-- A work's block and row are turned. -/
theorem DsR.work {v' : Value} {l' : List Ch} {p' : Bool} (h : DsR F w b1 L (I1 ++ x :: I2) lk pv qv tv) (hf : Fr (fun i => i = x.wb ∨ x.v.ownBlock = some i) w w')
    (hb : w'.heap[x.wb]? = some (.cells #[.int .i64 x.n, v', .bool p'] 88 (0, 0))) (hr : ChRow w' v' l') (hv : v'.ownBlock = x.v.ownBlock ∨ ∃ b, v'.ownBlock = some b ∧ w.heap.size ≤ b) :
    DsR (more F w w') w' b1 L (I1 ++ ⟨x.n, x.wb, v', l', p'⟩ :: I2) lk pv qv tv := by
  have hxm : x ∈ I1 ++ x :: I2 := by simp
  have hx := h.wk x hxm
  have hxt : ∃ cells, w.heap[x.wb]? = some (.cells cells 88 (0, 0)) := ⟨_, hx.2.1⟩
  have hno : ∀ k t, (∃ cells, w.heap[k]? = some (.cells cells t (0, 0))) → t ≠ 88 → t ≠ 60 → ¬ (k = x.wb ∨ x.v.ownBlock = some k) := by
    intro k t hk h1 h2 q
    rcases q with q | q
    · subst q; exact types_ne hk hxt h1
    · exact types_ne hk (hx.2.2.1.typed k q) h2
  have hap := h.apart
  rw [List.pairwise_append] at hap
  obtain ⟨ha1, ha2, ha3⟩ := hap
  rw [List.pairwise_cons] at ha2
  have hvF : ∀ k, v'.ownBlock = some k → more F w w' k := by
    intro k hk
    rcases hv with q | ⟨b, q, hb'⟩
    · exact .inl (hx.2.2.2 k (q ▸ hk))
    · rw [hk] at q; cases q; exact .inr ⟨hb', hr.lt k hk⟩
  have hoth : ∀ y ∈ I1 ++ x :: I2, y.wb ≠ x.wb → (∀ k, y.v.ownBlock = some k → x.v.ownBlock ≠ some k) → more F w w' y.wb ∧ w'.heap[y.wb]? = some (.cells #[.int .i64 y.n, y.v, .bool y.p] 88 (0, 0)) ∧ ChRow w' y.v y.l ∧ (∀ k, y.v.ownBlock = some k → more F w w' k) := by
    intro y hy h1 h2
    have hyk := h.wk y hy
    refine ⟨.inl hyk.1, hf.at_ hyk.2.1 (fun q => q.elim h1 (fun q => types_ne (hx.2.2.1.typed _ q) ⟨_, hyk.2.1⟩ (by decide))), hyk.2.2.1.move (fun k hk => hf.block k (hyk.2.2.1.lt k hk) (fun q => ?_)), fun k hk => .inl (hyk.2.2.2 k hk)⟩
    rcases q with q | q
    · subst q; exact types_ne (hyk.2.2.1.typed _ hk) hxt (by decide)
    · exact h2 k hk q
  refine ⟨more_lt h.fb hf.size, .inl h.b, hf.at_ h.blk (hno _ _ ⟨_, h.blk⟩ (by decide) (by decide)), h.pr.move (fun k hk => hf.block k (row_lt h.pr k hk) (hno _ _ (h.pr.typed hk) (by decide) (by decide))), ?_, h.lr.move (fun k hk => hf.block k (h.lr.lt k hk) (hno _ _ (h.lr.typed hk) (by decide) (by decide))), fun k hk => .inl (h.pF k hk), fun k hk => .inl (h.qF k hk), fun k hk => .inl (h.tF k hk), ?_, ?_⟩
  · have := h.wp.move (fun k hk => hf.block k (row_lt h.wp k hk) (hno _ _ (h.wp.typed hk) (by decide) (by decide)))
    simpa using this
  · intro y hy
    rcases List.mem_append.1 hy with hy | hy
    · have h1 := ha3 y hy x (by simp)
      exact hoth y (by simp [hy]) h1.1 (fun k hk q => h1.2 k hk q)
    · rcases List.mem_cons.1 hy with rfl | hy
      · exact ⟨.inl hx.1, hb, hr, hvF⟩
      · have h1 := ha2.1 y hy
        exact hoth y (by simp [hy]) (fun q => h1.1 q.symm) (fun k hk q => h1.2 k q hk)
  · have hnew : ∀ y ∈ I1 ++ x :: I2, (∀ k, y.v.ownBlock = some k → x.v.ownBlock ≠ some k) → ∀ k, y.v.ownBlock = some k → v'.ownBlock ≠ some k := by
      intro y hy h2 k hk q
      have hyk := h.wk y hy
      rcases hv with e | ⟨b, e, hb'⟩
      · exact h2 k hk (e ▸ q)
      · rw [q] at e; cases e
        have := hyk.2.2.1.lt k hk
        omega
    rw [List.pairwise_append]
    refine ⟨ha1, ?_, ?_⟩
    · rw [List.pairwise_cons]
      refine ⟨fun y hy => ⟨(ha2.1 y hy).1, fun k hk q => ?_⟩, ha2.2⟩
      exact hnew y (by simp [hy]) (fun j hj e => (ha2.1 y hy).2 j e hj) k q hk
    · intro y hy z hz
      rcases List.mem_cons.1 hz with rfl | hz
      · have h1 := ha3 y hy x (by simp)
        exact ⟨h1.1, fun k hk => hnew y (by simp [hy]) h1.2 k hk⟩
      · exact ha3 y hy z (by simp [hz])
end
end Go.Proofs.Ytekebjcknhjceaa
