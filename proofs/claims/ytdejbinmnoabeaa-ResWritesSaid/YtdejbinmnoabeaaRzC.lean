/- Appending a row to one that is full: what comes reads as both, in a new row or where it was. No walk. -/
import Derived.Test.YtdejbinmnoabeaaRzB
import Derived.Deep.AppendSrc
import Derived.Deep.Upon
namespace Go.Proofs.Ytdejbinmnoabeaa
open Go.RowKit Go.Mine Go.Proofs.YtdejbinmnoabeaaW.PrintWords
set_option linter.unusedVariables false
set_option linter.unusedSimpArgs false
abbrev ChAt (w : World) (B : Nat) (A : Option Addr) (l : List Ch) : Prop := Q.ChAt w B A l
theorem ChAt.ofK {w : World} {B : Nat} {A : Option Addr} {l : List Ch} (h : K.ChAt w B A l) : ChAt w B A l := h
theorem ChAt.toK {w : World} {B : Nat} {A : Option Addr} {l : List Ch} (h : ChAt w B A l) : K.ChAt w B A l := h
def flatC (l : List Ch) : List Value := l.flatMap Q.encCh
theorem flatC_cons (c : Ch) (l : List Ch) : flatC (c :: l) = Q.encCh c ++ flatC l := rfl
theorem flatC_len (l : List Ch) : (flatC l).length = l.length * 3 := by
  induction l with
  | nil => rfl
  | cons c cs ih => rw [flatC_cons, List.length_append, ih, List.length_cons]; show 3 + _ = _; omega
theorem flatC_append (a b : List Ch) : flatC (a ++ b) = flatC a ++ flatC b := by unfold flatC; exact List.flatMap_append
theorem flatC_get : ∀ (l : List Ch) (i : Nat) (x : Ch) (j : Nat), l[i]? = some x → j < 3 → (flatC l)[i * 3 + j]? = (Q.encCh x)[j]?
  | c :: cs, 0, x, j, hx, hj => by
    simp at hx
    subst hx
    rw [flatC_cons, List.getElem?_append_left (by show _ < 3; omega)]
    simp
  | c :: cs, i + 1, x, j, hx, hj => by
    rw [flatC_cons, List.getElem?_append_right (by show 3 ≤ _; omega)]
    have := flatC_get cs i x j (by simpa using hx) hj
    rw [← this]
    congr 1
    show _ - 3 = _
    omega
theorem flatC_one {l : List Ch} : ∀ u ∈ flatC l, u.oneCell' = true := by
  intro u hu
  obtain ⟨x, _, hx⟩ := List.mem_flatMap.1 hu
  exact Q.eCh.one x u hx
theorem flatC_holds {w : World} {B b off : Nat} {l : List Ch} (h : ChAt w B (some ⟨b, off, none⟩) l) (j : Nat) (v : Value) (hv : (flatC l)[j]? = some v) : w.cell? ((⟨b, off, none⟩ : Addr).add j) = some v := by
  have hj := (List.getElem?_eq_some_iff.1 hv).1
  rw [flatC_len] at hj
  have hi : j / 3 < l.length := by omega
  have hx : l[j / 3]? = some l[j / 3] := List.getElem?_eq_getElem hi
  obtain ⟨b', off', e, _, hc⟩ := h _ _ hx
  cases e
  have := flatC_get l (j / 3) _ (j % 3) hx (Nat.mod_lt _ (by decide))
  rw [show j / 3 * 3 + j % 3 = j by omega, hv] at this
  have := hc (j % 3) v this.symm
  rw [show off + j / 3 * 3 + j % 3 = off + j by omega] at this
  rw [Addr.add_lit]
  exact this
theorem src_of {w : World} {B n : Nat} {A : Option Addr} {l : List Ch} (h : ChAt w B A l) (hn : l.length = n) (c : Nat) : Src Try.prog 3 22 (.slice A n c) n (flatC l) w := by
  subst hn
  cases l with
  | nil =>
    refine ⟨.inl ⟨62, Try.underlying22⟩, fun _ => rfl, ?_, ?_, rfl, fun u hu => by cases hu⟩
    · cases A with
      | none => exact run_firstCells_none _ _ _ _ _
      | some a => exact run_firstCells_some _ _ _ _ _ _ [] rfl (fun j v hv => by simp at hv)
    · cases A with
      | none => exact run_firstCells_none _ _ _ _ _
      | some a => exact run_firstCells_some _ _ _ _ _ _ [] rfl (fun j v hv => by simp at hv)
  | cons x xs =>
    obtain ⟨b, off, e, _⟩ := h 0 x rfl
    subst e
    exact Src.ofSlice w Try.underlying22 _ _ _ _ (flatC_len _) (flatC_holds h) flatC_one
theorem info62c : ∃ i, Try.prog.info? 62 = some i ∧ i.zero = some (.agg #[.int .i64 0, .int .i64 0, .int .u64 0]) ∧ i.size = 3 ∧ i.bytes = 24 := by
  have h : (Try.prog.info? 62).map (fun i => (i.zero, i.size, i.bytes)) = some (some (.agg #[.int .i64 0, .int .i64 0, .int .u64 0]), 3, 24) := by kernel_rfl
  obtain ⟨i, hi, hz⟩ := Option.map_eq_some_iff.1 h
  simp only [Prod.mk.injEq] at hz
  exact ⟨i, hi, hz.1, hz.2.1, hz.2.2⟩
theorem ncap (n c : Nat) (hn : n ≤ 1000) (hc : c < n) : Builtin.nextslicecap n c * 24 ≤ 281474976710656 := by
  have := nextslicecap_le hc
  omega
/-- A row of changes put behind a full one. -/
theorem append_full {w : World} {B : Nat} {A1 A2 : Option Addr} {l1 l2 : List Ch} {n1 n2 c2 : Nat} (h1 : ChAt w B A1 l1) (h2 : ChAt w B A2 l2) (e1 : l1.length = n1) (e2 : l2.length = n2) (hB : B ≤ w.heap.size) (hn1 : n1 ≤ 400) (hn2 : n2 ≤ 400) (ty : TypeId) :
    ∃ A c w', (Builtin.append_ #[22, 22] ty #[.slice A1 n1 n1, .slice A2 n2 c2]).run Try.prog w = .ok (.slice A (n1 + n2) c) w' ∧ n1 + n2 ≤ c ∧ ChAt w' w'.heap.size A (l1 ++ l2) ∧ Below w.heap.size w w' ∧ (A = A1 ∨ A = some ⟨w.heap.size, 0, none⟩) := by
  obtain ⟨i, hi, hz, hs, hb⟩ := info62c
  have s2 := src_of h2 e2 c2
  by_cases q : n2 = 0
  · subst q
    have hl2 : l2 = [] := List.eq_nil_of_length_eq_zero e2
    subst hl2
    refine ⟨A1, n1, w, ?_, by omega, ?_, Below.refl _ _, .inl rfl⟩
    · exact run_append_nothing w 22 22 ty 62 i Try.underlying22 hi A1 n1 n1 (Nat.le_refl _) _ (by rw [hs]; exact s2)
    · rw [List.append_nil]; exact h1.up hB
  · have hold := (src_of h1 e1 n1).cellsD
    rw [← hs] at hold s2
    have hr := run_append_grow_src w 22 22 ty 62 i _ Try.underlying22 hi hz A1 n1 n1 (flatC l1) hold _ n2 (flatC l2) s2 (by omega) (by omega) (by rw [hb]; exact ncap _ _ (by omega) (by omega))
    have hg : n1 + n2 ≤ grownCap w (n1 + n2) n1 62 := grownCap_ge _ _ _ _
    generalize hz2 : Builtin.zeroCells (Value.agg #[.int .i64 0, .int .i64 0, .int .u64 0]).cells (grownCap w (n1 + n2) n1 62 - (n1 + n2)) = Z at hr
    refine ⟨_, _, _, hr, hg, ?_, (Q.bd1 w).alloc (Nat.le_refl _) _, .inr rfl⟩
    intro k x hx
    refine ⟨w.heap.size, 0, rfl, by simp, fun j v hv => ?_⟩
    have hj : j < 3 := (List.getElem?_eq_some_iff.1 hv).1
    have hk := (MapKept.heap_alloc w.drew (.cells ((flatC l1 ++ flatC l2).toArray ++ Z) 62)).1
    rw [show w.drew.heap.size = w.heap.size from rfl] at hk
    rw [cell_of_row _ _ _ _ _ _ hk, ← flatC_append, Nat.zero_add]
    have hg2 := flatC_get _ k x j hx hj
    rw [Array.getElem?_append_left (by
      have := (List.getElem?_eq_some_iff.1 hx).1
      simp [flatC_len]
      simp at this
      omega)]
    simp only [List.getElem?_toArray]
    rw [hg2]
    exact hv
end Go.Proofs.Ytdejbinmnoabeaa
