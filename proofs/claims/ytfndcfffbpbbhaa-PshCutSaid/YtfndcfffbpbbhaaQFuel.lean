/- A scope in which the run jumps back to one label: the measure is a ghost number that the relation bears. -/
import Derived.ScopeJumps
namespace Go.Proofs.Ytfndcfffbpbbhaa.Q
theorem least {p : Nat → Prop} (h : ∃ k, p k) : ∃ k, p k ∧ ∀ k', p k' → k ≤ k' := by
 obtain ⟨k, hk⟩ := h
 induction k using Nat.strongRecOn with
 | _ n ih =>
  by_cases hx : ∃ m, m < n ∧ p m
  ·obtain ⟨m, hm, hp⟩ := hx
   exact ih m hm hp
  ·exact ⟨n, hk, fun k' hk' => Nat.le_of_not_lt (fun hl => hx ⟨k', hl, hk'⟩)⟩
open Classical in
theorem wp_scope_fuel {P : Program} {a : Act} {w : World} {Q : Exit → Act → World → Prop} {c rest : Code} (l : Nat) (JK : Nat → Act → World → Prop) (hf : findLabel c l = some rest) (k0 : Nat)
  (first : (∀ a w, JK k0 a w → rest.wp P (Exit.jump l (fun a' w' => ∃ k, JK k a' w') Q) a w) → c.wp P (Exit.jump l (fun a' w' => ∃ k, JK k a' w') Q) a w)
  (pass : ∀ k a w, JK k a w → rest.wp P (Exit.jump l (fun a' w' => ∃ k', k' < k ∧ JK k' a' w') Q) a w) : (Code.scope c).wp P Q a w := by
 have weak : ∀ (J1 J2 : Act → World → Prop), (∀ a w, J1 a w → J2 a w) → ∀ e a w, Exit.jump l J1 Q e a w → Exit.jump l J2 Q e a w := by
  intro J1 J2 h e a w he
  cases e with
  | goto l' => exact ⟨he.1, h _ _ he.2⟩
  | normal => exact he
  | exit id => exact he
  | ret => exact he
  | panic ch => exact he
  | outgrown => exact he
 refine wp_scope_jumps l (fun a' w' => ∃ k, JK k a' w') (fun a' w' => if h : ∃ k, JK k a' w' then (least h).choose else 0) hf ?_ ?_
 ·exact first (fun a w hJ => wp_mono (pass k0 a w hJ) (weak _ _ (fun a w h => ⟨h.choose, h.choose_spec.2⟩)))
 ·intro a w hJ
  refine wp_mono (pass _ a w (least hJ).choose_spec.1) (weak _ _ ?_)
  rintro a' w' ⟨k', hlt, hk'⟩
  refine ⟨⟨k', hk'⟩, ?_⟩
  rw [dif_pos hJ, dif_pos ⟨k', hk'⟩]
  exact Nat.lt_of_le_of_lt ((least ⟨k', hk'⟩).choose_spec.2 _ hk') hlt
theorem wp_scope_label {P : Program} {a : Act} {w : World} {Q : Exit → Act → World → Prop} {c rest : Code} (l : Nat) (JK : Nat → Act → World → Prop) (hf : findLabel c l = some (Code.skip.seq rest)) (k0 : Nat)
  (first : (∀ a w, JK k0 a w → rest.wp P (Exit.jump l (fun a' w' => ∃ k, JK k a' w') Q) a w) → c.wp P (Exit.jump l (fun a' w' => ∃ k, JK k a' w') Q) a w)
  (pass : ∀ k a w, JK k a w → rest.wp P (Exit.jump l (fun a' w' => ∃ k', k' < k ∧ JK k' a' w') Q) a w) : (Code.scope c).wp P Q a w := by
 refine wp_scope_fuel l JK hf k0 (fun _ => first (fun a w hJ => wp_mono (pass k0 a w hJ) ?_)) (fun k a w hJ => wp_seq (wp_skip (pass k a w hJ)))
 intro e a w he
 cases e with
 | goto l' => exact ⟨he.1, he.2.choose, he.2.choose_spec.2⟩
 | normal => exact he
 | exit id => exact he
 | ret => exact he
 | panic ch => exact he
 | outgrown => exact he
end Go.Proofs.Ytfndcfffbpbbhaa.Q
