/- More laws on a map's block: a step of a range, the rest as a list from which one has gone. -/
import Derived.Test.YtmckdoiepmkbbaaMapLib
namespace Go.Mine
open Go.RowKit
set_option linter.unusedVariables false
set_option linter.unusedSimpArgs false
set_option linter.unusedSectionVars false
section
variable {α β : Type} [DecidableEq α] {eK : α → Value} {eV : β → Value} {P : Program} {w : World} {ops : Array Oper} {rest : List Oper} {o : Oper} {a : Act} {Q : Exit → Act → World → Prop}

theorem IterAt.nodup {w : World} {r b c c' : Nat} {L left : List (α × β × Nat)} (h : IterAt w r b c L left) (ho : Ok L c') : (left.map (·.2.2)).Nodup := by
  obtain ⟨seen, h1, h2, h3⟩ := h
  subst h3
  exact (List.Sublist.map _ List.filter_sublist).nodup ho.born

theorem take_out {left : List (α × β × Nat)} {x : α × β × Nat} (hn : (left.map (·.2.2)).Nodup) (hx : x ∈ left) : ∃ l1 l2, left = l1 ++ x :: l2 ∧ left.filter (fun y => decide (y.2.2 ≠ x.2.2)) = l1 ++ l2 := by
  obtain ⟨l1, l2, rfl⟩ := List.append_of_mem hx
  refine ⟨l1, l2, rfl, ?_⟩
  rw [List.map_append, List.map_cons, List.nodup_append, List.nodup_cons] at hn
  obtain ⟨n1, ⟨n2, n3⟩, n4⟩ := hn
  rw [List.filter_append, List.filter_cons]
  simp only [ne_eq, not_true, decide_false, Bool.false_eq_true, if_false]
  congr 1
  · rw [List.filter_eq_self]
    intro y hy
    simpa using n4 _ (List.mem_map_of_mem hy) _ (List.mem_cons_self ..)
  · rw [List.filter_eq_self]
    intro y hy
    simpa using fun q => n2 (List.mem_map.2 ⟨y, hy, q⟩)

theorem wl_next2 (hg : o.guard = none) {it : Operand} (hop : o.op = Op.next it false) {r b c : Nat} {L left : List (α × β × Nat)}
    (hit : a.eval it = .pointer (some ⟨r, 0, none⟩)) (hm : MapAt eK eV w b L c) (hi : IterAt w r b c L left)
    (hDone : Hid (left = []) → Stop (wpList P ops Q rest (a.put o.dst (.tuple #[.bool false])) w))
    (hMore : ∀ (k : α) (v : β) (st : Nat) (l1 l2 : List (α × β × Nat)), Hid (left = l1 ++ (k, v, st) :: l2) → ∀ w', (k, v, st) ∈ L → MapAt eK eV w' b L c → IterAt w' r b c L (l1 ++ l2) →
      (Instr.entry (.pointer (some ⟨r, 0, none⟩))).run P w' = .ok (.tuple #[eK k, eV v]) w' → Fr (· = r) w w' → Hid (w'.heap.size = w.heap.size) →
      Stop (wpList P ops Q rest (a.put o.dst (.tuple #[.bool true, eK k, eV v])) w')) :
    wpList P ops Q (o :: rest) a w :=
  wl_next hg hop hit hm hi hDone (fun k v st hx w' h1 h2 h3 h4 h5 h6 => by
    obtain ⟨l1, l2, e1, e2⟩ := take_out (hi.nodup hm.ok) hx
    rw [e2] at h3
    exact hMore k v st l1 l2 e1 w' h1 h2 h3 h4 h5 h6)

theorem IterAt.fresh {w : World} {r b c c' : Nat} {L l1 l2 : List (α × β × Nat)} {x : α × β × Nat} (h : IterAt w r b c L (l1 ++ x :: l2)) (ho : Ok L c') : ∀ y ∈ l1 ++ l2, y.1 ≠ x.1 := by
  have hs := h.sub
  have hn := h.nodup ho
  intro y hy q
  have hyL : y ∈ L := hs y (by rcases List.mem_append.1 hy with h | h <;> simp [h])
  have hxL : x ∈ L := hs x (by simp)
  have hyx : y = x := by
    by_cases e : y = x
    · exact e
    · obtain ⟨i, hi⟩ := List.getElem?_of_mem hyL
      obtain ⟨j, hj⟩ := List.getElem?_of_mem hxL
      have hk := ho.keys
      rw [List.pairwise_iff_getElem] at hk
      have hil := (List.getElem?_eq_some_iff.1 hi).1
      have hjl := (List.getElem?_eq_some_iff.1 hj).1
      have ei : L[i] = y := (List.getElem?_eq_some_iff.1 hi).2
      have ej : L[j] = x := (List.getElem?_eq_some_iff.1 hj).2
      rcases Nat.lt_trichotomy i j with h | h | h
      · exact absurd (by rw [ei, ej]; exact q) (hk i j hil hjl h)
      · subst h; exact (ei.symm.trans ej)
      · exact absurd (by rw [ei, ej]; exact q.symm) (hk j i hjl hil h)
  subst hyx
  rw [List.map_append, List.map_cons, List.nodup_append, List.nodup_cons] at hn
  obtain ⟨n1, ⟨n2, n3⟩, n4⟩ := hn
  rcases List.mem_append.1 hy with h | h
  · exact n4 _ (List.mem_map_of_mem h) _ (List.mem_cons_self ..) rfl
  · exact n2 (List.mem_map_of_mem h)
end
end Go.Mine
