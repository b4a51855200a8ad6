/- A queue in memory, plain: rows of flat elements, a queue's block with its row of items and its row of works. No walk. -/
import Derived.Test.YtdejbinmnoabeaaMapLib
import Derived.Test.YtdejbinmnoabeaaWWords
import Derived.Lib.SliceRun
namespace Go.Proofs.Ytdejbinmnoabeaa.Q
open Go.RowKit Go.Mine Go.Proofs.YtdejbinmnoabeaaW.PrintWords
set_option linter.unusedVariables false
set_option linter.unusedSimpArgs false

/-- How elements lie: sz cells each. -/
structure Enc (α : Type) where
  sz : Nat
  f : α → List Value
  len : ∀ x, (f x).length = sz
  one : ∀ x, ∀ u ∈ f x, u.oneCell' = true
def Enc.kd {α : Type} (E : Enc α) : Kd α where
  sz := E.sz
  E := []
  K := fun _ x cs => cs = E.f x
  M := fun _ _ _ x cs => cs = E.f x
  K_len := fun h => by rw [h]; exact E.len _
  K_one := fun h u hu => by rw [h] at hu; exact E.one _ u hu
  K_below := fun _ h => h
  K_of_M := fun h => h
  M_mono := fun _ h => h
  M_bound := fun h => h
  M_move := fun _ h => h
  M_lower := fun _ h => h
abbrev ptrV (b : Nat) : Value := .pointer (some ⟨b, 0, none⟩)
def encCh (c : Ch) : List Value := [.int .i64 c.kind, .int .i64 c.key, .int .u64 c.val]
def eCh : Enc Ch := ⟨3, encCh, fun _ => rfl, fun x u hu => by simp [encCh] at hu; rcases hu with rfl | rfl | rfl <;> rfl⟩
def eWp : Enc Nat := ⟨1, fun x => [ptrV x], fun _ => rfl, fun x u hu => by simp at hu; subst hu; rfl⟩

section
variable {α : Type} {E : Enc α} {e : Nat} {w w1 : World} {v : Value} {l : List α}
/-- A row of one's own. -/
abbrev FR (E : Enc α) (e : Nat) (w : World) (v : Value) (l : List α) : Prop := E.kd.R e w 0 (fun _ => True) v l
theorem FR.move (h : FR E e w v l) (hm : ∀ k, v.ownBlock = some k → w1.heap[k]? = w.heap[k]?) : FR E e w1 v l := by
  obtain ⟨h0, inner, ho, hr⟩ := h
  exact ⟨h0, inner, own_move ho hm, hr⟩
theorem FR.typed (h : FR E e w v l) {k : Nat} (hk : v.ownBlock = some k) : ∃ cells, w.heap[k]? = some (.cells cells e (0, 0)) := by
  obtain ⟨h0, inner, ho, hr⟩ := h
  exact own_typed ho k hk
theorem FR.lt (h : FR E e w v l) {k : Nat} (hk : v.ownBlock = some k) : k < w.heap.size := by
  obtain ⟨cells, hc⟩ := h.typed hk
  exact (Array.getElem?_eq_some_iff.1 hc).1
theorem types_ne {k t t' : Nat} (h : ∃ cells, w.heap[k]? = some (.cells cells t (0, 0))) (h' : ∃ cells, w.heap[k]? = some (.cells cells t' (0, 0))) (ht : t ≠ t') : False := by
  obtain ⟨c, h⟩ := h
  obtain ⟨c', h'⟩ := h'
  rw [h] at h'
  simp at h'
  exact ht h'.2
theorem FR.ne (h : FR E e w v l) {b : Nat} {cs : Array Value} {t : Nat} (hb : w.heap[b]? = some (.cells cs t (0, 0))) (ht : e ≠ t) : v.ownBlock ≠ some b := fun hk => types_ne (h.typed hk) ⟨_, hb⟩ ht
theorem FR.nil (E : Enc α) (e : Nat) (w : World) : FR E e w (.slice none 0 0) [] := Kd.R_nil _ _ _ _ _
theorem FR.below (h : FR E e w v l) (hb : Below w.heap.size w w1) : FR E e w1 v l := h.move (fun k hk => hb.block k (h.lt hk))
/-- What a row reads. -/
def RowAt (f : α → List Value) (sz : Nat) (w : World) (B : Nat) (A : Option Addr) (l : List α) : Prop :=
  ∀ i x, l[i]? = some x → ∃ b off, A = some ⟨b, off, none⟩ ∧ b < B ∧ ∀ j v, (f x)[j]? = some v → w.cell? ⟨b, off + i * sz + j, none⟩ = some v
theorem RowAt.below {f : α → List Value} {sz B : Nat} {A : Option Addr} (h : RowAt f sz w B A l) (hb : Below B w w1) : RowAt f sz w1 B A l := by
  intro i x hx
  obtain ⟨b, off, e, hlt, hc⟩ := h i x hx
  exact ⟨b, off, e, hlt, fun j v hv => (hb.cell (p := ⟨b, off + i * sz + j, none⟩) hlt).trans (hc j v hv)⟩
theorem RowAt.up {f : α → List Value} {sz B B' : Nat} {A : Option Addr} (h : RowAt f sz w B A l) (hb : B ≤ B') : RowAt f sz w B' A l := by
  intro i x hx
  obtain ⟨b, off, e, hlt, hc⟩ := h i x hx
  exact ⟨b, off, e, Nat.lt_of_lt_of_le hlt hb, hc⟩
theorem FR.at_ (h : FR E e w v l) : ∃ A c, v = .slice A l.length c ∧ l.length ≤ c ∧ RowAt E.f E.sz w w.heap.size A l := by
  obtain ⟨h0, inner, ho, hr⟩ := h
  rcases ho.2 with ⟨hv, h0⟩ | ⟨g, cap, cur, hv, hg, hh, h1, h2, h3, h4⟩
  · have hl : l = [] := List.eq_nil_of_length_eq_zero h0
    subst hl
    exact ⟨none, 0, hv, Nat.le_refl _, fun i x hx => by simp at hx⟩
  · refine ⟨_, cap, hv, h1, fun i x hx => ⟨g, 0, rfl, (Array.getElem?_eq_some_iff.1 hh).1, fun j u hu => ?_⟩⟩
    have h5 : (inner.drop (i * E.sz)).take E.sz = E.f x := hr.2 i x hx
    have hj : j < E.sz := by have := (List.getElem?_eq_some_iff.1 hu).1; rwa [E.len] at this
    have h6 : inner[i * E.sz + j]? = some u := by
      rw [← h5, List.getElem?_take_of_lt hj, List.getElem?_drop] at hu
      exact hu
    have := ho.cells (g := g) (by rw [hv]; simp [Value.ownBlock]) _ u h6
    rw [add_plain] at this
    rw [Nat.zero_add]
    exact this
/-- A row cut to its front. -/
theorem FR.cut {g n c i : Nat} (h : FR E e w (.slice (some ⟨g, 0, none⟩) n c) l) (hi : i ≤ n) : FR E e w (.slice (some ⟨g, 0, none⟩) i c) (l.take i) := by
  obtain ⟨h0, inner, ho, hr⟩ := h
  rcases ho.2 with ⟨hv, h0⟩ | ⟨g', cap, cur, hv, hg, hh, h1, h2, h3, h4⟩
  · cases hv
  · injection hv with e1 e2 e3
    cases e1
    subst e2 e3
    have hls : inner.length = l.length * E.sz := ho.1
    refine ⟨fun k hk => trivial, inner.take (i * E.sz), ⟨?_, .inr ⟨g, c, cur, ?_, hg, hh, ?_, h2, h3, ?_⟩⟩, ?_, ?_⟩
    · show (inner.take (i * E.sz)).length = (l.take i).length * E.sz
      rw [List.length_take, hls, List.length_take, Nat.min_eq_left (Nat.mul_le_mul_right _ hi), Nat.min_eq_left hi]
    · show Value.slice _ i c = .slice _ (l.take i).length c
      rw [List.length_take, Nat.min_eq_left hi]
    · rw [List.length_take, Nat.min_eq_left hi]; omega
    · show cur.toList.take ((l.take i).length * E.sz) = _
      rw [List.length_take, Nat.min_eq_left hi]
      have h4' : cur.toList.take (l.length * E.sz) = inner := h4
      rw [← h4', List.take_take, Nat.min_eq_left (Nat.mul_le_mul_right _ hi)]
    · show (inner.take (i * E.sz)).length = (l.take i).length * E.sz
      rw [List.length_take, hls, List.length_take, Nat.min_eq_left (Nat.mul_le_mul_right _ hi), Nat.min_eq_left hi]
    · intro j x hx
      have hj : j < i := by
        have := (List.getElem?_eq_some_iff.1 hx).1
        rw [List.length_take] at this; omega
      rw [List.getElem?_take_of_lt hj] at hx
      have h5 : (inner.drop (j * E.sz)).take E.sz = E.f x := hr.2 j x hx
      show ((inner.take (i * E.sz)).drop (j * E.sz)).take E.sz = E.f x
      rw [List.drop_take, List.take_take, ← h5]
      congr 1
      have : j * E.sz + E.sz ≤ i * E.sz := by rw [← Nat.succ_mul]; exact Nat.mul_le_mul_right _ hj
      omega
end
end Go.Proofs.Ytdejbinmnoabeaa.Q

/- Rows of one's own: read, cleared behind a place; what DeleteFunc does to a list. No walk. -/
namespace Go.Mine
section
variable {α : Type}
/-- DeleteFunc under way: i kept, j seen. -/
def DelI (p : α → Bool) (X Y : List α) (i j : Nat) : Prop := Y.length = X.length ∧ i < j ∧ j ≤ X.length ∧ Y.take i = (X.take j).filter (fun x => !p x) ∧ Y.drop j = X.drop j
theorem DelI.start {p : α → Bool} {X : List α} {k : Nat} (hk : k < X.length) (hp : p X[k] = true) (hn : ∀ j, j < k → ∀ y, X[j]? = some y → p y = false) : DelI p X X k (k + 1) := by
  refine ⟨rfl, by omega, hk, ?_, rfl⟩
  rw [List.take_succ_eq_append_getElem hk, List.filter_append]
  have h1 : (X.take k).filter (fun x => !p x) = X.take k := by
    rw [List.filter_eq_self]
    intro a ha
    obtain ⟨i, hi, he⟩ := List.mem_iff_getElem.1 ha
    rw [List.length_take] at hi
    have := hn i (by omega) a (by rw [List.getElem_take] at he; rw [← he]; exact List.getElem?_eq_getElem _)
    rw [this]; rfl
  rw [h1]
  simp [hp]
theorem DelI.get {p : α → Bool} {X Y : List α} {i j : Nat} (h : DelI p X Y i j) : Y[j]? = X[j]? := by
  have := congrArg (fun l => l[0]?) h.2.2.2.2
  simpa [List.getElem?_drop] using this
theorem DelI.keep {p : α → Bool} {X Y : List α} {i j : Nat} {x : α} (h : DelI p X Y i j) (hx : X[j]? = some x) (hp : p x = false) : DelI p X (Y.set i x) (i + 1) (j + 1) := by
  obtain ⟨h1, h2, h3, h4, h5⟩ := h
  have hj := (List.getElem?_eq_some_iff.1 hx).1
  have he := (List.getElem?_eq_some_iff.1 hx).2
  refine ⟨by rw [List.length_set]; exact h1, by omega, hj, ?_, ?_⟩
  · rw [List.take_succ_eq_append_getElem hj, List.filter_append, ← h4, he]
    have hi : i < (Y.set i x).length := by rw [List.length_set]; omega
    rw [List.take_succ_eq_append_getElem hi]
    simp [hp, List.take_set_of_le]
  · rw [List.drop_set_of_lt (by omega), ← List.drop_drop, ← List.drop_drop, h5]
theorem DelI.skip {p : α → Bool} {X Y : List α} {i j : Nat} {x : α} (h : DelI p X Y i j) (hx : X[j]? = some x) (hp : p x = true) : DelI p X Y i (j + 1) := by
  obtain ⟨h1, h2, h3, h4, h5⟩ := h
  have hj := (List.getElem?_eq_some_iff.1 hx).1
  have he := (List.getElem?_eq_some_iff.1 hx).2
  refine ⟨h1, by omega, hj, ?_, ?_⟩
  · rw [List.take_succ_eq_append_getElem hj, List.filter_append, ← h4, he]
    simp [hp]
  · rw [← List.drop_drop, ← List.drop_drop, h5]
theorem DelI.done {p : α → Bool} {X Y : List α} {i j : Nat} (h : DelI p X Y i j) (hj : j = X.length) : Y.take i = X.filter (fun x => !p x) := by
  rw [h.2.2.2.1, hj, List.take_length]
def idxP (p : α → Bool) (l : List α) : Int := match l.findIdx? p with | some i => i | none => -1
theorem idxP_found {p : α → Bool} {l : List α} {i : Nat} {x : α} (hx : l[i]? = some x) (h : p x = true) (hn : ∀ j, j < i → ∀ y, l[j]? = some y → p y = false) : idxP p l = i := by
  have hi := (List.getElem?_eq_some_iff.1 hx).1
  have e : l[i] = x := (List.getElem?_eq_some_iff.1 hx).2
  have : l.findIdx? p = some i := by
    rw [List.findIdx?_eq_some_iff_getElem]
    refine ⟨hi, by rw [e]; exact h, fun j hj => ?_⟩
    have := hn j hj l[j] (List.getElem?_eq_getElem (by omega))
    simp [this]
  unfold idxP
  rw [this]
theorem idxP_none {p : α → Bool} {l : List α} (hn : ∀ j, j < l.length → ∀ y, l[j]? = some y → p y = false) : idxP p l = -1 := by
  have : l.findIdx? p = none := by
    rw [List.findIdx?_eq_none_iff]
    intro x hx
    obtain ⟨j, hj⟩ := List.getElem?_of_mem hx
    exact hn j (List.getElem?_eq_some_iff.1 hj).1 x hj
  unfold idxP
  rw [this]
theorem idxP_cases (p : α → Bool) (l : List α) : (idxP p l = -1 ∧ l.filter (fun x => !p x) = l) ∨ ∃ k, ∃ hk : k < l.length, idxP p l = k ∧ p l[k] = true ∧ ∀ j, j < k → ∀ y, l[j]? = some y → p y = false := by
  unfold idxP
  cases h : l.findIdx? p with
  | none =>
    left
    rw [List.findIdx?_eq_none_iff] at h
    exact ⟨rfl, List.filter_eq_self.2 (fun x hx => by simpa using h x hx)⟩
  | some k =>
    right
    rw [List.findIdx?_eq_some_iff_getElem] at h
    obtain ⟨hk, h1, h2⟩ := h
    refine ⟨k, hk, rfl, h1, fun j hj y hy => ?_⟩
    have := h2 j hj
    rw [List.getElem?_eq_getElem (by omega)] at hy
    cases hy
    simpa using this
end
end Go.Mine
namespace Go.Proofs.Ytdejbinmnoabeaa.Q
open Go.RowKit Go.Mine Go.Proofs.YtdejbinmnoabeaaW.PrintWords
set_option linter.unusedVariables false
set_option linter.unusedSimpArgs false
section
variable {α : Type} {E : Enc α} {e : Nat} {w w1 : World} {v : Value} {l : List α}
theorem FR.form {A : Option Addr} {n c : Nat} (h : FR E e w (.slice A n c) l) (hp : 0 < l.length) : ∃ g, A = some ⟨g, 0, none⟩ := by
  obtain ⟨g, cap, hv, _⟩ := Kd.R_form h hp
  injection hv with a
  exact ⟨g, a⟩
theorem FR.n_eq {A : Option Addr} {n c : Nat} (h : FR E e w (.slice A n c) l) : n = l.length := (Kd.R_reads' h).1
/-- The cells of a row's block. -/
theorem FR.cells {g n c : Nat} (h : FR E e w (.slice (some ⟨g, 0, none⟩) n c) l) : ∃ cur, w.heap[g]? = some (.cells cur e (0, 0)) ∧ n * E.sz ≤ cur.size := by
  obtain ⟨h0, inner, ho, hr⟩ := h
  rcases ho.2 with ⟨hv, h0⟩ | ⟨g', cap, cur, hv, hg, hh, h1, h2, h3, h4⟩
  · cases hv
  · injection hv with e1 e2 e3
    cases e1
    subst e2 e3
    have h3' : cur.size = c * E.sz := h3
    exact ⟨cur, hh, by rw [h3']; exact Nat.mul_le_mul_right _ h1⟩
theorem FR.has {g n c : Nat} (h : FR E e w (.slice (some ⟨g, 0, none⟩) n c) l) {j : Nat} (hj : j < n * E.sz) : (w.cell? ⟨g, j, none⟩).isSome = true ∧ w.frozen? ⟨g, j, none⟩ = false := by
  obtain ⟨cur, hh, hs⟩ := h.cells
  constructor
  · rw [cell_of_row _ _ j _ _ _ hh, Array.getElem?_eq_getElem (by omega)]; rfl
  · simp [World.frozen?, hh]
/-- A row whose end is turned, cut ahead of it. -/
theorem FR.clear {g n c i : Nat} (h : FR E e w (.slice (some ⟨g, 0, none⟩) n c) l) (hi : i ≤ n) (Z : List Value) (hZ : i * E.sz + Z.length ≤ n * E.sz) :
    FR E e (w.setCells g (i * E.sz) Z) (.slice (some ⟨g, 0, none⟩) i c) (l.take i) ∧ Fr (fun k => k = g) w (w.setCells g (i * E.sz) Z) := by
  obtain ⟨s1, s2, s3, s4⟩ := setCells_same g Z (i * E.sz) w
  refine ⟨?_, ⟨s1, s2, s3, by rw [s4]; exact Nat.le_refl _, fun k hk hn => setCells_far Z (i * E.sz) k hn⟩⟩
  have h' := h.cut hi
  obtain ⟨cur, hh, hs⟩ := h.cells
  obtain ⟨cur', c1, c2, c3⟩ := setCells_row Z (i * E.sz) w cur hh (by omega)
  obtain ⟨h0, inner, ho, hr⟩ := h'
  rcases ho.2 with ⟨hv, h0⟩ | ⟨g', cap, cur2, hv, hg, hh2, h1, h2, h3, h4⟩
  · cases hv
  · injection hv with e1 e2 e3
    cases e1
    subst e3
    rw [hh] at hh2
    cases hh2
    refine ⟨fun _ _ => trivial, inner, ⟨ho.1, .inr ⟨g, c, cur', congrArg (fun m => Value.slice (Option.some ⟨g, 0, none⟩) m c) e2, hg, c1, h1, h2, by rw [c2]; exact h3, ?_⟩⟩, hr⟩
    rw [c3, ← h4]
    have hl : i = (l.take i).length := e2
    show (cur.toList.take (i * E.sz) ++ Z ++ cur.toList.drop (i * E.sz + Z.length)).take ((l.take i).length * E.sz) = cur.toList.take ((l.take i).length * E.sz)
    rw [← hl]
    have hcl : i * E.sz ≤ cur.toList.length := by rw [Array.length_toList]; omega
    rw [List.append_assoc, List.take_append_of_le_length (by rw [List.length_take, Nat.min_eq_left hcl]; exact Nat.le_refl _), List.take_take, Nat.min_self]
theorem run_clear_row {P : Program} (w : World) (t et ty : TypeId) (z : Value) (ht : P.underlying t = some (.slice et)) (hv : ∀ w, (zeroValue et).run P w = .ok z w) (g o n c : Nat) (hn : 0 < n)
    (hc : ∀ j, j < (Builtin.zeroCells z.cells n).toList.length → (w.cell? ⟨g, o + j, none⟩).isSome = true ∧ w.frozen? ⟨g, o + j, none⟩ = false) (h1 : ∀ u ∈ (Builtin.zeroCells z.cells n).toList, u.oneCell' = true) :
    (Builtin.clear_ #[t] ty #[.slice (some ⟨g, o, none⟩) n c]).run P w = .ok (.tuple #[]) (w.setCells g o (Builtin.zeroCells z.cells n).toList) := by
  have hst := run_storeCells_cells (P := P) g o (Builtin.zeroCells z.cells n).toList 0 w (by simpa using fun j hj => (hc j (by simpa using hj)).1) (by simpa using fun j hj => (hc j (by simpa using hj)).2) h1
  simp only [Nat.add_zero] at hst
  obtain ⟨m, rfl⟩ : ∃ m, n = m + 1 := ⟨n - 1, by omega⟩
  simp only [Builtin.clear_, List.getElem?_toArray, List.getElem?_cons_zero, Sem.run_bind, run_underlying ht, Result.andThen, hv, hst, Sem.run_pure]
end
end Go.Proofs.Ytdejbinmnoabeaa.Q
