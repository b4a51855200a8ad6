/- A queue in memory, plain: rows of flat elements, a queue's block with its row of items and its row of works. No walk. -/
import Derived.Test.YtmckdoiepmkbbaaKvB
import Derived.Test.YtmckdoiepmkbbaaWWords
namespace Go.Proofs.Ytmckdoiepmkbbaa
open Go.RowKit Go.Mine Go.Proofs.YtmckdoiepmkbbaaW.PrintWords
set_option linter.unusedVariables false
set_option linter.unusedSimpArgs false

/-- How elements lie: sz cells each. -/
structure Enc (α : Type) where
  sz : Nat
  f : α → List Value
  len : ∀ x, (f x).length = sz
  one : ∀ x, ∀ u ∈ f x, u.oneCell' = true
def Enc.kd {α : Type} (E : Enc α) : Kd α where
  sz := E.sz
  E := []
  K := fun _ x cs => cs = E.f x
  M := fun _ _ _ x cs => cs = E.f x
  K_len := fun h => by rw [h]; exact E.len _
  K_one := fun h u hu => by rw [h] at hu; exact E.one _ u hu
  K_below := fun _ h => h
  K_of_M := fun h => h
  M_mono := fun _ h => h
  M_bound := fun h => h
  M_move := fun _ h => h
  M_lower := fun _ h => h
abbrev ptrV (b : Nat) : Value := .pointer (some ⟨b, 0, none⟩)
def encCh (c : Ch) : List Value := [.int .i64 c.kind, .int .i64 c.key, .int .u64 c.val]
def eCh : Enc Ch := ⟨3, encCh, fun _ => rfl, fun x u hu => by simp [encCh] at hu; rcases hu with rfl | rfl | rfl <;> rfl⟩
def eWp : Enc Nat := ⟨1, fun x => [ptrV x], fun _ => rfl, fun x u hu => by simp at hu; subst hu; rfl⟩

section
variable {α : Type} {E : Enc α} {e : Nat} {w w1 : World} {v : Value} {l : List α}
/-- A row of one's own. -/
abbrev FR (E : Enc α) (e : Nat) (w : World) (v : Value) (l : List α) : Prop := E.kd.R e w 0 (fun _ => True) v l
theorem FR.move (h : FR E e w v l) (hm : ∀ k, v.ownBlock = some k → w1.heap[k]? = w.heap[k]?) : FR E e w1 v l := by
  obtain ⟨h0, inner, ho, hr⟩ := h
  exact ⟨h0, inner, own_move ho hm, hr⟩
theorem FR.typed (h : FR E e w v l) {k : Nat} (hk : v.ownBlock = some k) : ∃ cells, w.heap[k]? = some (.cells cells e (0, 0)) := by
  obtain ⟨h0, inner, ho, hr⟩ := h
  exact own_typed ho k hk
theorem FR.lt (h : FR E e w v l) {k : Nat} (hk : v.ownBlock = some k) : k < w.heap.size := by
  obtain ⟨cells, hc⟩ := h.typed hk
  exact (Array.getElem?_eq_some_iff.1 hc).1
theorem types_ne {k t t' : Nat} (h : ∃ cells, w.heap[k]? = some (.cells cells t (0, 0))) (h' : ∃ cells, w.heap[k]? = some (.cells cells t' (0, 0))) (ht : t ≠ t') : False := by
  obtain ⟨c, h⟩ := h
  obtain ⟨c', h'⟩ := h'
  rw [h] at h'
  simp at h'
  exact ht h'.2
theorem FR.ne (h : FR E e w v l) {b : Nat} {cs : Array Value} {t : Nat} (hb : w.heap[b]? = some (.cells cs t (0, 0))) (ht : e ≠ t) : v.ownBlock ≠ some b := fun hk => types_ne (h.typed hk) ⟨_, hb⟩ ht
theorem FR.nil (E : Enc α) (e : Nat) (w : World) : FR E e w (.slice none 0 0) [] := Kd.R_nil _ _ _ _ _
theorem FR.below (h : FR E e w v l) (hb : Below w.heap.size w w1) : FR E e w1 v l := h.move (fun k hk => hb.block k (h.lt hk))
/-- What a row reads. -/
def RowAt (f : α → List Value) (sz : Nat) (w : World) (B : Nat) (A : Option Addr) (l : List α) : Prop :=
  ∀ i x, l[i]? = some x → ∃ b off, A = some ⟨b, off, none⟩ ∧ b < B ∧ ∀ j v, (f x)[j]? = some v → w.cell? ⟨b, off + i * sz + j, none⟩ = some v
theorem RowAt.below {f : α → List Value} {sz B : Nat} {A : Option Addr} (h : RowAt f sz w B A l) (hb : Below B w w1) : RowAt f sz w1 B A l := by
  intro i x hx
  obtain ⟨b, off, e, hlt, hc⟩ := h i x hx
  exact ⟨b, off, e, hlt, fun j v hv => (hb.cell (p := ⟨b, off + i * sz + j, none⟩) hlt).trans (hc j v hv)⟩
theorem RowAt.up {f : α → List Value} {sz B B' : Nat} {A : Option Addr} (h : RowAt f sz w B A l) (hb : B ≤ B') : RowAt f sz w B' A l := by
  intro i x hx
  obtain ⟨b, off, e, hlt, hc⟩ := h i x hx
  exact ⟨b, off, e, Nat.lt_of_lt_of_le hlt hb, hc⟩
theorem FR.at_ (h : FR E e w v l) : ∃ A c, v = .slice A l.length c ∧ l.length ≤ c ∧ RowAt E.f E.sz w w.heap.size A l := by
  obtain ⟨h0, inner, ho, hr⟩ := h
  rcases ho.2 with ⟨hv, h0⟩ | ⟨g, cap, cur, hv, hg, hh, h1, h2, h3, h4⟩
  · have hl : l = [] := List.eq_nil_of_length_eq_zero h0
    subst hl
    exact ⟨none, 0, hv, Nat.le_refl _, fun i x hx => by simp at hx⟩
  · refine ⟨_, cap, hv, h1, fun i x hx => ⟨g, 0, rfl, (Array.getElem?_eq_some_iff.1 hh).1, fun j u hu => ?_⟩⟩
    have h5 : (inner.drop (i * E.sz)).take E.sz = E.f x := hr.2 i x hx
    have hj : j < E.sz := by have := (List.getElem?_eq_some_iff.1 hu).1; rwa [E.len] at this
    have h6 : inner[i * E.sz + j]? = some u := by
      rw [← h5, List.getElem?_take_of_lt hj, List.getElem?_drop] at hu
      exact hu
    have := ho.cells (g := g) (by rw [hv]; simp [Value.ownBlock]) _ u h6
    rw [add_plain] at this
    rw [Nat.zero_add]
    exact this
/-- A row cut to its front. -/
theorem FR.cut {g n c i : Nat} (h : FR E e w (.slice (some ⟨g, 0, none⟩) n c) l) (hi : i ≤ n) : FR E e w (.slice (some ⟨g, 0, none⟩) i c) (l.take i) := by
  obtain ⟨h0, inner, ho, hr⟩ := h
  rcases ho.2 with ⟨hv, h0⟩ | ⟨g', cap, cur, hv, hg, hh, h1, h2, h3, h4⟩
  · cases hv
  · injection hv with e1 e2 e3
    cases e1
    subst e2 e3
    have hls : inner.length = l.length * E.sz := ho.1
    refine ⟨fun k hk => trivial, inner.take (i * E.sz), ⟨?_, .inr ⟨g, c, cur, ?_, hg, hh, ?_, h2, h3, ?_⟩⟩, ?_, ?_⟩
    · show (inner.take (i * E.sz)).length = (l.take i).length * E.sz
      rw [List.length_take, hls, List.length_take, Nat.min_eq_left (Nat.mul_le_mul_right _ hi), Nat.min_eq_left hi]
    · show Value.slice _ i c = .slice _ (l.take i).length c
      rw [List.length_take, Nat.min_eq_left hi]
    · rw [List.length_take, Nat.min_eq_left hi]; omega
    · show cur.toList.take ((l.take i).length * E.sz) = _
      rw [List.length_take, Nat.min_eq_left hi]
      have h4' : cur.toList.take (l.length * E.sz) = inner := h4
      rw [← h4', List.take_take, Nat.min_eq_left (Nat.mul_le_mul_right _ hi)]
    · show (inner.take (i * E.sz)).length = (l.take i).length * E.sz
      rw [List.length_take, hls, List.length_take, Nat.min_eq_left (Nat.mul_le_mul_right _ hi), Nat.min_eq_left hi]
    · intro j x hx
      have hj : j < i := by
        have := (List.getElem?_eq_some_iff.1 hx).1
        rw [List.length_take] at this; omega
      rw [List.getElem?_take_of_lt hj] at hx
      have h5 : (inner.drop (j * E.sz)).take E.sz = E.f x := hr.2 j x hx
      show ((inner.take (i * E.sz)).drop (j * E.sz)).take E.sz = E.f x
      rw [List.drop_take, List.take_take, ← h5]
      congr 1
      have : j * E.sz + E.sz ≤ i * E.sz := by rw [← Nat.succ_mul]; exact Nat.mul_le_mul_right _ hj
      omega
end
end Go.Proofs.Ytmckdoiepmkbbaa
