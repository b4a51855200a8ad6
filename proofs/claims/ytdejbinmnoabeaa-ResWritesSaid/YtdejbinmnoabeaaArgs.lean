/- Slices that came in, whatever their elements: the cells of each element, by a relation of the element's own. -/
import Derived.WalkKit
import Derived.ProofKit
import Derived.SizedLaws
import Derived.Deep.Slices
import Derived.Lib.SmallJoins
import Derived.Deep.Strs
namespace Go.Mine
open Go.RowKit Go.Deep
set_option linter.unusedVariables false
set_option linter.unusedSimpArgs false

/-- The slice at A reads as ys: element i lies in 'size' cells, of which E tells. All of it below block B. -/
def RowR {α : Type} (E : World → α → List Value → Prop) (w : World) (B size : Nat) (A : Option Addr) (ys : List α) : Prop :=
  ∀ i y, ys[i]? = some y → ∃ b off cs, A = some ⟨b, off, none⟩ ∧ b < B ∧ E w y cs ∧ cs.length = size ∧ ∀ j v, cs[j]? = some v → w.cell? ⟨b, off + i * size + j, none⟩ = some v

theorem RowR.below {α : Type} {E : World → α → List Value → Prop} {w w' : World} {B size : Nat} {A : Option Addr} {ys : List α} (h : RowR E w B size A ys) (hb : Below B w w') (hE : ∀ y cs, E w y cs → E w' y cs) : RowR E w' B size A ys := by
  intro i y hy
  obtain ⟨b, off, cs, e, hlt, he, hl, hc⟩ := h i y hy
  exact ⟨b, off, cs, e, hlt, hE y cs he, hl, fun j v hv => (hb.cell (p := ⟨b, off + i * size + j, none⟩) hlt).trans (hc j v hv)⟩

theorem cell_spot {w : World} {a : Addr} {v : Value} (h : w.cell? a = some v) : a.spot = none := by
  unfold World.cell? at h
  split at h
  · cases hs : a.spot with
    | none => rfl
    | some x => simp [hs] at h
  · cases h

theorem list_of_fn {α : Type} {n : Nat} {p : Nat → α → Prop} : (∀ i, i < n → ∃ y, p i y) → ∃ ys : List α, ys.length = n ∧ ∀ i y, ys[i]? = some y → p i y := by
  induction n with
  | zero => intro _; exact ⟨[], rfl, by simp⟩
  | succ n ih =>
    intro h
    obtain ⟨ys, hl, hp⟩ := ih (fun i hi => h i (by omega))
    obtain ⟨y, hy⟩ := h n (by omega)
    refine ⟨ys ++ [y], by simp [hl], fun i z hz => ?_⟩
    by_cases hi : i < n
    · rw [List.getElem?_append_left (by omega)] at hz
      exact hp i z hz
    · rw [List.getElem?_append_right (by omega), hl] at hz
      have : i - n = 0 := by
        cases hk : i - n with
        | zero => rfl
        | succ m => rw [hk] at hz; simp at hz
      rw [this] at hz
      simp at hz
      subst hz
      have : i = n := by omega
      subst this
      exact hy

section
variable {H : Type} {enc : TypeId × Value → H} {P : Program} {w : World} {base : Nat} {spare : Nat → Bool} {held : Bool}

theorem open_row {α : Type} (E : World → α → List Value → Prop) {t e : TypeId} {size fuel : Nat} {A : Option Addr} {len cap : Nat} {x : DataW H × List MemPlace} (ht : P.underlying t = some (.slice e)) (hc : P.cellsOf e = size) (hs : 0 < size)
    (hel : ∀ n cs z, DataW.trod enc P w base spare held n e cs = some z → ∃ y, E w y cs)
    (h : DataW.trod enc P w base spare held fuel t [.slice A len cap] = some x) :
    ∃ ys : List α, ys.length = len ∧ RowR E w w.heap.size size A ys ∧ len ≤ cap := by
  rcases open_slice ht h with ⟨h0, _⟩ | ⟨a, len', cap', m, n, D, Pl, hcs, hb, hl, hm, hmm, _, hx⟩
  · simp only [List.cons.injEq, Value.slice.injEq, and_true] at h0
    obtain ⟨rfl, rfl, rfl⟩ := h0
    exact ⟨[], rfl, fun i y hy => by simp at hy, Nat.le_refl _⟩
  · simp only [List.cons.injEq, Value.slice.injEq, and_true] at hcs
    obtain ⟨rfl, rfl, rfl⟩ := hcs
    have hlm : len ≤ m := by rw [hmm]; split <;> omega
    obtain ⟨ys, hyl, hyp⟩ := list_of_fn (α := α) (n := len) (p := fun i y => ∃ cs, E w y cs ∧ cs.length = size ∧ ∀ j, j < size → w.cell? ((a.add (i * size)).add j) = cs[j]?) (by
      intro i hi
      obtain ⟨cs', h1, h2⟩ := hx i (by omega)
      rw [hc] at h1
      obtain ⟨_, hln, hce⟩ := World.cells?_some h1
      obtain ⟨y, hy⟩ := hel _ _ _ h2
      exact ⟨y, cs', hy, hln, hce⟩)
    refine ⟨ys, hyl, fun i y hy => ?_, hl⟩
    obtain ⟨cs, he, hln, hce⟩ := hyp i y hy
    have h0 : w.cell? ((a.add (i * size)).add 0) = some cs[0] := by rw [hce 0 hs, List.getElem?_eq_getElem (by omega)]
    obtain ⟨b, off, sp⟩ := a
    have hadd : ∀ k, (⟨b, off, sp⟩ : Addr).add k = ⟨b, off + k, if k = 0 then sp else none⟩ := by
      intro k
      unfold Addr.add
      by_cases hk : k = 0
      · subst hk; simp
      · simp [hk]
    have hsp : sp = none := by
      by_cases hi0 : i = 0
      · subst hi0
        have := cell_spot h0
        simpa [hadd, Addr.add] using this
      · -- the first element's cell tells it
        obtain ⟨cs0, h1, _⟩ := hx 0 (by have := (List.getElem?_eq_some_iff.1 hy).1; omega)
        rw [hc] at h1
        obtain ⟨_, hln0, hce0⟩ := World.cells?_some h1
        have h00 := hce0 0 hs
        rw [List.getElem?_eq_getElem (by omega)] at h00
        have := cell_spot h00
        simpa [hadd, Addr.add] using this
    subst hsp
    have hblk : b < w.heap.size := by
      have := World.block_lt_of_cell? _ _ h0
      simp only [hadd] at this
      exact this
    refine ⟨b, off, cs, rfl, hblk, he, hln, fun j v hv => ?_⟩
    have hj : j < size := by have := (List.getElem?_eq_some_iff.1 hv).1; omega
    rw [← hv, ← hce j hj]
    congr 1
    simp only [hadd]
    unfold Addr.add
    by_cases hj0 : j = 0
    · subst hj0; simp
    · simp [hj0]

/-- .. and no longer than its weight allows. -/
theorem sized_row {ts : List TypeId} {ds : List (DataW H)} {j : Nat} {t e : TypeId} {A : Option Addr} {len cap : Nat} {d : DataW H} {ps : List MemPlace} (hsz : (DataW.weightsEach P ts ds).all (· ≤ reachBytes) = true)
    (htj : ts[j]? = some t) (hdj : ds[j]? = some d) (ht : P.underlying t = some (.slice e)) (h : DataW.Trod enc P w base spare held t (.slice A len cap) d ps) {B : Nat} (hB : P.bytesOf e = B) : len * B ≤ 140737488351232 := by
  obtain ⟨fuel, hf⟩ := h
  rcases open_slice ht hf with ⟨h0, _⟩ | ⟨a, len', cap', m, n, D, Pl, hcs, hb, hl, hm, hmm, hx, _⟩
  · simp only [Value.cells, List.cons.injEq, Value.slice.injEq, and_true] at h0
    obtain ⟨_, rfl, _⟩ := h0
    simp
  · simp only [Value.cells, List.cons.injEq, Value.slice.injEq, and_true] at hcs
    obtain ⟨rfl, rfl, rfl⟩ := hcs
    obtain ⟨rfl, _⟩ := Prod.mk.inj hx
    have z := sized_slice hsz htj hdj ht
    rw [hB] at z
    refine Nat.le_trans (Nat.mul_le_mul_right _ ?_) z
    simp
end
end Go.Mine
