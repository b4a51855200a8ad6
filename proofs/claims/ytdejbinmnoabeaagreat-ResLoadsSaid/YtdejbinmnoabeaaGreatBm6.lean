/- Texts of this seat, put together: QuC, QuD, QuE, QuF. -/
import Derived.Test.YtdejbinmnoabeaaGreatBm0
import Derived.Test.YtdejbinmnoabeaaGreatBm2
import Derived.Lib.SliceRun
import Derived.Test.YtdejbinmnoabeaaGreatRows
import Derived.WalkSpells
import Derived.WalkLawsBesides
import Derived.StillTailTactics
import Derived.Deep.DeepCutAuto
import Derived.Deep.CutBlock
import Derived.Deep.LoopGhost
import Derived.BigQuiet
import Derived.Deep.RegionLaw
namespace Go.Proofs.YtdejbinmnoabeaaGreat.Q
open Go.RowKit Go.Mine Go.Proofs.YtdejbinmnoabeaaGreatW.PrintWords
set_option linter.unusedVariables false
set_option linter.unusedSimpArgs false
structure Enc (α : Type) where
  sz : Nat
  f : α → List Value
  len : ∀ x, (f x).length = sz
  one : ∀ x, ∀ u ∈ f x, u.oneCell' = true
def Enc.kd {α : Type} (E : Enc α) : Kd α where
  sz := E.sz
  E := []
  K := fun _ x cs => cs = E.f x
  M := fun _ _ _ x cs => cs = E.f x
  K_len := fun h => by rw [h]; exact E.len _
  K_one := fun h u hu => by rw [h] at hu; exact E.one _ u hu
  K_below := fun _ h => h
  K_of_M := fun h => h
  M_mono := fun _ h => h
  M_bound := fun h => h
  M_move := fun _ h => h
  M_lower := fun _ h => h
abbrev ptrV (b : Nat) : Value := .pointer (some ⟨b, 0, none⟩)
def encCh (c : Ch) : List Value := [.int .i64 c.kind, .int .i64 c.key, .int .u64 c.val]
def eCh : Enc Ch := ⟨3, encCh, fun _ => rfl, fun x u hu => by simp [encCh] at hu; rcases hu with rfl | rfl | rfl <;> rfl⟩
section
variable {α : Type} {E : Enc α} {e : Nat} {w w1 : World} {v : Value} {l : List α}
abbrev FR (E : Enc α) (e : Nat) (w : World) (v : Value) (l : List α) : Prop := E.kd.R e w 0 (fun _ => True) v l
theorem FR.move (h : FR E e w v l) (hm : ∀ k, v.ownBlock = some k → w1.heap[k]? = w.heap[k]?) : FR E e w1 v l := by
  obtain ⟨h0, inner, ho, hr⟩ := h
  exact ⟨h0, inner, own_move ho hm, hr⟩
theorem FR.typed (h : FR E e w v l) {k : Nat} (hk : v.ownBlock = some k) : ∃ cells, w.heap[k]? = some (.cells cells e (0, 0)) := by
  obtain ⟨h0, inner, ho, hr⟩ := h
  exact own_typed ho k hk
theorem FR.lt (h : FR E e w v l) {k : Nat} (hk : v.ownBlock = some k) : k < w.heap.size := by
  obtain ⟨cells, hc⟩ := h.typed hk
  exact (Array.getElem?_eq_some_iff.1 hc).1
theorem types_ne {k t t' : Nat} (h : ∃ cells, w.heap[k]? = some (.cells cells t (0, 0))) (h' : ∃ cells, w.heap[k]? = some (.cells cells t' (0, 0))) (ht : t ≠ t') : False := by
  obtain ⟨c, h⟩ := h
  obtain ⟨c', h'⟩ := h'
  rw [h] at h'
  simp at h'
  exact ht h'.2
theorem FR.ne (h : FR E e w v l) {b : Nat} {cs : Array Value} {t : Nat} (hb : w.heap[b]? = some (.cells cs t (0, 0))) (ht : e ≠ t) : v.ownBlock ≠ some b := fun hk => types_ne (h.typed hk) ⟨_, hb⟩ ht
theorem FR.nil (E : Enc α) (e : Nat) (w : World) : FR E e w (.slice none 0 0) [] := Kd.R_nil _ _ _ _ _
theorem FR.below (h : FR E e w v l) (hb : Below w.heap.size w w1) : FR E e w1 v l := h.move (fun k hk => hb.block k (h.lt hk))
def RowAt (f : α → List Value) (sz : Nat) (w : World) (B : Nat) (A : Option Addr) (l : List α) : Prop :=
  ∀ i x, l[i]? = some x → ∃ b off, A = some ⟨b, off, none⟩ ∧ b < B ∧ ∀ j v, (f x)[j]? = some v → w.cell? ⟨b, off + i * sz + j, none⟩ = some v
theorem RowAt.below {f : α → List Value} {sz B : Nat} {A : Option Addr} (h : RowAt f sz w B A l) (hb : Below B w w1) : RowAt f sz w1 B A l := by
  intro i x hx
  obtain ⟨b, off, e, hlt, hc⟩ := h i x hx
  exact ⟨b, off, e, hlt, fun j v hv => (hb.cell (p := ⟨b, off + i * sz + j, none⟩) hlt).trans (hc j v hv)⟩
theorem RowAt.up {f : α → List Value} {sz B B' : Nat} {A : Option Addr} (h : RowAt f sz w B A l) (hb : B ≤ B') : RowAt f sz w B' A l := by
  intro i x hx
  obtain ⟨b, off, e, hlt, hc⟩ := h i x hx
  exact ⟨b, off, e, Nat.lt_of_lt_of_le hlt hb, hc⟩
theorem FR.at_ (h : FR E e w v l) : ∃ A c, v = .slice A l.length c ∧ l.length ≤ c ∧ RowAt E.f E.sz w w.heap.size A l := by
  obtain ⟨h0, inner, ho, hr⟩ := h
  rcases ho.2 with ⟨hv, h0⟩ | ⟨g, cap, cur, hv, hg, hh, h1, h2, h3, h4⟩
  · have hl : l = [] := List.eq_nil_of_length_eq_zero h0
    subst hl
    exact ⟨none, 0, hv, Nat.le_refl _, fun i x hx => by simp at hx⟩
  · refine ⟨_, cap, hv, h1, fun i x hx => ⟨g, 0, rfl, (Array.getElem?_eq_some_iff.1 hh).1, fun j u hu => ?_⟩⟩
    have h5 : (inner.drop (i * E.sz)).take E.sz = E.f x := hr.2 i x hx
    have hj : j < E.sz := by have := (List.getElem?_eq_some_iff.1 hu).1; rwa [E.len] at this
    have h6 : inner[i * E.sz + j]? = some u := by
      rw [← h5, List.getElem?_take_of_lt hj, List.getElem?_drop] at hu
      exact hu
    have := ho.cells (g := g) (by rw [hv]; simp [Value.ownBlock]) _ u h6
    rw [add_plain] at this
    rw [Nat.zero_add]
    exact this
theorem FR.cut {g n c i : Nat} (h : FR E e w (.slice (some ⟨g, 0, none⟩) n c) l) (hi : i ≤ n) : FR E e w (.slice (some ⟨g, 0, none⟩) i c) (l.take i) := by
  obtain ⟨h0, inner, ho, hr⟩ := h
  rcases ho.2 with ⟨hv, h0⟩ | ⟨g', cap, cur, hv, hg, hh, h1, h2, h3, h4⟩
  · cases hv
  · injection hv with e1 e2 e3
    cases e1
    subst e2 e3
    have hls : inner.length = l.length * E.sz := ho.1
    refine ⟨fun k hk => trivial, inner.take (i * E.sz), ⟨?_, .inr ⟨g, c, cur, ?_, hg, hh, ?_, h2, h3, ?_⟩⟩, ?_, ?_⟩
    · show (inner.take (i * E.sz)).length = (l.take i).length * E.sz
      rw [List.length_take, hls, List.length_take, Nat.min_eq_left (Nat.mul_le_mul_right _ hi), Nat.min_eq_left hi]
    · show Value.slice _ i c = .slice _ (l.take i).length c
      rw [List.length_take, Nat.min_eq_left hi]
    · rw [List.length_take, Nat.min_eq_left hi]; omega
    · show cur.toList.take ((l.take i).length * E.sz) = _
      rw [List.length_take, Nat.min_eq_left hi]
      have h4' : cur.toList.take (l.length * E.sz) = inner := h4
      rw [← h4', List.take_take, Nat.min_eq_left (Nat.mul_le_mul_right _ hi)]
    · show (inner.take (i * E.sz)).length = (l.take i).length * E.sz
      rw [List.length_take, hls, List.length_take, Nat.min_eq_left (Nat.mul_le_mul_right _ hi), Nat.min_eq_left hi]
    · intro j x hx
      have hj : j < i := by
        have := (List.getElem?_eq_some_iff.1 hx).1
        rw [List.length_take] at this; omega
      rw [List.getElem?_take_of_lt hj] at hx
      have h5 : (inner.drop (j * E.sz)).take E.sz = E.f x := hr.2 j x hx
      show ((inner.take (i * E.sz)).drop (j * E.sz)).take E.sz = E.f x
      rw [List.drop_take, List.take_take, ← h5]
      congr 1
      have : j * E.sz + E.sz ≤ i * E.sz := by rw [← Nat.succ_mul]; exact Nat.mul_le_mul_right _ hj
      omega
end
end Go.Proofs.YtdejbinmnoabeaaGreat.Q
namespace Go.Mine
section
variable {α : Type}
def DelI (p : α → Bool) (X Y : List α) (i j : Nat) : Prop := Y.length = X.length ∧ i < j ∧ j ≤ X.length ∧ Y.take i = (X.take j).filter (fun x => !p x) ∧ Y.drop j = X.drop j
theorem DelI.start {p : α → Bool} {X : List α} {k : Nat} (hk : k < X.length) (hp : p X[k] = true) (hn : ∀ j, j < k → ∀ y, X[j]? = some y → p y = false) : DelI p X X k (k + 1) := by
  refine ⟨rfl, by omega, hk, ?_, rfl⟩
  rw [List.take_succ_eq_append_getElem hk, List.filter_append]
  have h1 : (X.take k).filter (fun x => !p x) = X.take k := by
    rw [List.filter_eq_self]
    intro a ha
    obtain ⟨i, hi, he⟩ := List.mem_iff_getElem.1 ha
    rw [List.length_take] at hi
    have := hn i (by omega) a (by rw [List.getElem_take] at he; rw [← he]; exact List.getElem?_eq_getElem _)
    rw [this]; rfl
  rw [h1]
  simp [hp]
theorem DelI.get {p : α → Bool} {X Y : List α} {i j : Nat} (h : DelI p X Y i j) : Y[j]? = X[j]? := by
  have := congrArg (fun l => l[0]?) h.2.2.2.2
  simpa [List.getElem?_drop] using this
theorem DelI.keep {p : α → Bool} {X Y : List α} {i j : Nat} {x : α} (h : DelI p X Y i j) (hx : X[j]? = some x) (hp : p x = false) : DelI p X (Y.set i x) (i + 1) (j + 1) := by
  obtain ⟨h1, h2, h3, h4, h5⟩ := h
  have hj := (List.getElem?_eq_some_iff.1 hx).1
  have he := (List.getElem?_eq_some_iff.1 hx).2
  refine ⟨by rw [List.length_set]; exact h1, by omega, hj, ?_, ?_⟩
  · rw [List.take_succ_eq_append_getElem hj, List.filter_append, ← h4, he]
    have hi : i < (Y.set i x).length := by rw [List.length_set]; omega
    rw [List.take_succ_eq_append_getElem hi]
    simp [hp, List.take_set_of_le]
  · rw [List.drop_set_of_lt (by omega), ← List.drop_drop, ← List.drop_drop, h5]
theorem DelI.skip {p : α → Bool} {X Y : List α} {i j : Nat} {x : α} (h : DelI p X Y i j) (hx : X[j]? = some x) (hp : p x = true) : DelI p X Y i (j + 1) := by
  obtain ⟨h1, h2, h3, h4, h5⟩ := h
  have hj := (List.getElem?_eq_some_iff.1 hx).1
  have he := (List.getElem?_eq_some_iff.1 hx).2
  refine ⟨h1, by omega, hj, ?_, ?_⟩
  · rw [List.take_succ_eq_append_getElem hj, List.filter_append, ← h4, he]
    simp [hp]
  · rw [← List.drop_drop, ← List.drop_drop, h5]
theorem DelI.done {p : α → Bool} {X Y : List α} {i j : Nat} (h : DelI p X Y i j) (hj : j = X.length) : Y.take i = X.filter (fun x => !p x) := by
  rw [h.2.2.2.1, hj, List.take_length]
def idxP (p : α → Bool) (l : List α) : Int := match l.findIdx? p with | some i => i | none => -1
theorem idxP_found {p : α → Bool} {l : List α} {i : Nat} {x : α} (hx : l[i]? = some x) (h : p x = true) (hn : ∀ j, j < i → ∀ y, l[j]? = some y → p y = false) : idxP p l = i := by
  have hi := (List.getElem?_eq_some_iff.1 hx).1
  have e : l[i] = x := (List.getElem?_eq_some_iff.1 hx).2
  have : l.findIdx? p = some i := by
    rw [List.findIdx?_eq_some_iff_getElem]
    refine ⟨hi, by rw [e]; exact h, fun j hj => ?_⟩
    have := hn j hj l[j] (List.getElem?_eq_getElem (by omega))
    simp [this]
  unfold idxP
  rw [this]
theorem idxP_none {p : α → Bool} {l : List α} (hn : ∀ j, j < l.length → ∀ y, l[j]? = some y → p y = false) : idxP p l = -1 := by
  have : l.findIdx? p = none := by
    rw [List.findIdx?_eq_none_iff]
    intro x hx
    obtain ⟨j, hj⟩ := List.getElem?_of_mem hx
    exact hn j (List.getElem?_eq_some_iff.1 hj).1 x hj
  unfold idxP
  rw [this]
theorem idxP_cases (p : α → Bool) (l : List α) : (idxP p l = -1 ∧ l.filter (fun x => !p x) = l) ∨ ∃ k, ∃ hk : k < l.length, idxP p l = k ∧ p l[k] = true ∧ ∀ j, j < k → ∀ y, l[j]? = some y → p y = false := by
  unfold idxP
  cases h : l.findIdx? p with
  | none =>
    left
    rw [List.findIdx?_eq_none_iff] at h
    exact ⟨rfl, List.filter_eq_self.2 (fun x hx => by simpa using h x hx)⟩
  | some k =>
    right
    rw [List.findIdx?_eq_some_iff_getElem] at h
    obtain ⟨hk, h1, h2⟩ := h
    refine ⟨k, hk, rfl, h1, fun j hj y hy => ?_⟩
    have := h2 j hj
    rw [List.getElem?_eq_getElem (by omega)] at hy
    cases hy
    simpa using this
end
end Go.Mine
namespace Go.Proofs.YtdejbinmnoabeaaGreat.Q
open Go.RowKit Go.Mine Go.Proofs.YtdejbinmnoabeaaGreatW.PrintWords
set_option linter.unusedVariables false
set_option linter.unusedSimpArgs false
section
variable {α : Type} {E : Enc α} {e : Nat} {w w1 : World} {v : Value} {l : List α}
theorem FR.form {A : Option Addr} {n c : Nat} (h : FR E e w (.slice A n c) l) (hp : 0 < l.length) : ∃ g, A = some ⟨g, 0, none⟩ := by
  obtain ⟨g, cap, hv, _⟩ := Kd.R_form h hp
  injection hv with a
  exact ⟨g, a⟩
theorem FR.cells {g n c : Nat} (h : FR E e w (.slice (some ⟨g, 0, none⟩) n c) l) : ∃ cur, w.heap[g]? = some (.cells cur e (0, 0)) ∧ n * E.sz ≤ cur.size := by
  obtain ⟨h0, inner, ho, hr⟩ := h
  rcases ho.2 with ⟨hv, h0⟩ | ⟨g', cap, cur, hv, hg, hh, h1, h2, h3, h4⟩
  · cases hv
  · injection hv with e1 e2 e3
    cases e1
    subst e2 e3
    have h3' : cur.size = c * E.sz := h3
    exact ⟨cur, hh, by rw [h3']; exact Nat.mul_le_mul_right _ h1⟩
theorem FR.has {g n c : Nat} (h : FR E e w (.slice (some ⟨g, 0, none⟩) n c) l) {j : Nat} (hj : j < n * E.sz) : (w.cell? ⟨g, j, none⟩).isSome = true ∧ w.frozen? ⟨g, j, none⟩ = false := by
  obtain ⟨cur, hh, hs⟩ := h.cells
  constructor
  · rw [cell_of_row _ _ j _ _ _ hh, Array.getElem?_eq_getElem (by omega)]; rfl
  · simp [World.frozen?, hh]
theorem FR.clear {g n c i : Nat} (h : FR E e w (.slice (some ⟨g, 0, none⟩) n c) l) (hi : i ≤ n) (Z : List Value) (hZ : i * E.sz + Z.length ≤ n * E.sz) :
    FR E e (w.setCells g (i * E.sz) Z) (.slice (some ⟨g, 0, none⟩) i c) (l.take i) ∧ Fr (fun k => k = g) w (w.setCells g (i * E.sz) Z) := by
  obtain ⟨s1, s2, s3, s4⟩ := setCells_same g Z (i * E.sz) w
  refine ⟨?_, ⟨s1, s2, s3, by rw [s4]; exact Nat.le_refl _, fun k hk hn => setCells_far Z (i * E.sz) k hn⟩⟩
  have h' := h.cut hi
  obtain ⟨cur, hh, hs⟩ := h.cells
  obtain ⟨cur', c1, c2, c3⟩ := setCells_row Z (i * E.sz) w cur hh (by omega)
  obtain ⟨h0, inner, ho, hr⟩ := h'
  rcases ho.2 with ⟨hv, h0⟩ | ⟨g', cap, cur2, hv, hg, hh2, h1, h2, h3, h4⟩
  · cases hv
  · injection hv with e1 e2 e3
    cases e1
    subst e3
    rw [hh] at hh2
    cases hh2
    refine ⟨fun _ _ => trivial, inner, ⟨ho.1, .inr ⟨g, c, cur', congrArg (fun m => Value.slice (Option.some ⟨g, 0, none⟩) m c) e2, hg, c1, h1, h2, by rw [c2]; exact h3, ?_⟩⟩, hr⟩
    rw [c3, ← h4]
    have hl : i = (l.take i).length := e2
    show (cur.toList.take (i * E.sz) ++ Z ++ cur.toList.drop (i * E.sz + Z.length)).take ((l.take i).length * E.sz) = cur.toList.take ((l.take i).length * E.sz)
    rw [← hl]
    have hcl : i * E.sz ≤ cur.toList.length := by rw [Array.length_toList]; omega
    rw [List.append_assoc, List.take_append_of_le_length (by rw [List.length_take, Nat.min_eq_left hcl]; exact Nat.le_refl _), List.take_take, Nat.min_self]
theorem run_clear_row {P : Program} (w : World) (t et ty : TypeId) (z : Value) (ht : P.underlying t = some (.slice et)) (hv : ∀ w, (zeroValue et).run P w = .ok z w) (g o n c : Nat) (hn : 0 < n)
    (hc : ∀ j, j < (Builtin.zeroCells z.cells n).toList.length → (w.cell? ⟨g, o + j, none⟩).isSome = true ∧ w.frozen? ⟨g, o + j, none⟩ = false) (h1 : ∀ u ∈ (Builtin.zeroCells z.cells n).toList, u.oneCell' = true) :
    (Builtin.clear_ #[t] ty #[.slice (some ⟨g, o, none⟩) n c]).run P w = .ok (.tuple #[]) (w.setCells g o (Builtin.zeroCells z.cells n).toList) := by
  have hst := run_storeCells_cells (P := P) g o (Builtin.zeroCells z.cells n).toList 0 w (by simpa using fun j hj => (hc j (by simpa using hj)).1) (by simpa using fun j hj => (hc j (by simpa using hj)).2) h1
  simp only [Nat.add_zero] at hst
  obtain ⟨m, rfl⟩ : ∃ m, n = m + 1 := ⟨n - 1, by omega⟩
  simp only [Builtin.clear_, List.getElem?_toArray, List.getElem?_cons_zero, Sem.run_bind, run_underlying ht, Result.andThen, hv, hst, Sem.run_pure]
end
end Go.Proofs.YtdejbinmnoabeaaGreat.Q
namespace Go.Mine
structure It where
  num : Int
  val : Int
  by_ : Int
deriving DecidableEq
end Go.Mine
namespace Go.Proofs.YtdejbinmnoabeaaGreat.Q
open Go.RowKit Go.Mine Go.Proofs.YtdejbinmnoabeaaGreatW.PrintWords
set_option linter.unusedVariables false
set_option linter.unusedSimpArgs false
def encIt (x : It) : List Value := [.int .i64 x.num, .int .u64 x.val, .int .i64 x.by_]
def eIt : Enc It := ⟨3, encIt, fun _ => rfl, fun x u hu => by simp [encIt] at hu; rcases hu with rfl | rfl | rfl <;> rfl⟩
theorem info127 : (Tryz.prog.info? 127).map (fun i => (i.zero, i.size, i.bytes)) = some (some (.agg #[.int .i64 0, .int .u64 0, .int .i64 0]), 3, 24) := by kernel_rfl
theorem info119 : (Tryz.prog.info? 119).map (fun i => (i.zero, i.size, i.bytes)) = some (some (.pointer none), 1, 8) := by kernel_rfl
theorem info90 : (Tryz.prog.info? 90).map (fun i => (i.zero, i.size, i.bytes)) = some (some (.agg #[.int .i64 0, .int .i64 0, .int .u64 0]), 3, 24) := by kernel_rfl
theorem zero127 (w : World) : (zeroValue 127).run Tryz.prog w = .ok (.agg #[.int .i64 0, .int .u64 0, .int .i64 0]) w := by kernel_rfl
theorem zero119 (w : World) : (zeroValue 119).run Tryz.prog w = .ok (.pointer none) w := by kernel_rfl
theorem blk_lt {w : World} {b : Nat} {o : Obj} (h : w.heap[b]? = some o) : b < w.heap.size := (Array.getElem?_eq_some_iff.1 h).1
theorem bdN (w : World) (n : Nat) : Below w.heap.size w (w.drewN n) := ⟨rfl, rfl, rfl, Nat.le_refl _, fun _ _ => rfl⟩
theorem bd1 (w : World) : Below w.heap.size w w.drew := ⟨rfl, rfl, rfl, Nat.le_refl _, fun _ _ => rfl⟩
theorem zeros_len (z : Array Value) (n : Nat) : (Builtin.zeroCells z n).toList.length = n * z.size := by
  simp [Builtin.zeroCells]
theorem zeros_one {z : Array Value} {n : Nat} (h0 : 0 < z.size) (hz : ∀ u ∈ z.toList, u.oneCell' = true) : ∀ u ∈ (Builtin.zeroCells z n).toList, u.oneCell' = true := by
  intro u hu
  simp only [Builtin.zeroCells, Array.toList_map, List.mem_map] at hu
  obtain ⟨i, _, rfl⟩ := hu
  have hlt := Nat.mod_lt i h0
  rw [getElem!_pos z _ hlt]
  exact hz _ (by simp)
set_option maxHeartbeats 1000000 in
theorem idx_it (A : Option Addr) (l : List It) (c : Nat) (n : Int) (bx : Nat) (w : World) (hl : RowAt encIt 3 w w.heap.size A l) (hk : w.cell? ⟨bx, 0, none⟩ = some (.int .i64 n)) (hn : l.length ≤ 1000000000000) :
    Calls Tryz.prog 118 #[.slice A l.length c, .func (.func 113) #[] #[.pointer (some ⟨bx, 0, none⟩)]] w fun e w' => e = .returned (.int .i64 (idxP (fun x => x.by_ == n) l)) ∧ Below w.heap.size w w' := by
  have hbx : bx < w.heap.size := World.block_lt_of_cell? _ _ hk
  go_enter Tryz.func118, Tryz.ntmps118
  go_wp2
  go_loopg [8] (l.length + 1) (fun m v wr => ∃ i : Nat, v = .int .i64 i ∧ i ≤ l.length ∧ m = l.length + 1 - i ∧ (∀ j, j < i → ∀ y, l[j]? = some y → (y.by_ == n) = false) ∧ Below w.heap.size w wr)
  case atStart => exact ⟨0, rfl, Nat.zero_le _, rfl, fun j hj => absurd hj (by omega), Below.refl _ _⟩
  case round =>
    obtain ⟨i, rfl, hi, hn', hno, hb⟩ := hrel
    have HN := hid hn'
    have HNO := hid hno
    clear hn' hno
    by_cases h1 : i < l.length
    · obtain ⟨x, hx⟩ : ∃ x, l[i]? = some x := ⟨_, List.getElem?_eq_getElem h1⟩
      obtain ⟨b, off, rfl, hb1, hc⟩ := (hl.below hb) i x hx
      have k0 : wr.cell? ⟨b, off + i * 3, none⟩ = some (.int .i64 x.num) := hc 0 _ rfl
      have k1 := hc 1 _ rfl
      have k2 := hc 2 _ rfl
      have hkr := (hb.cell (p := ⟨bx, 0, none⟩) hbx).trans hk
      have hkr' : (wr.alloc (.cells #[.int .i64 x.num, .int .u64 x.val, .int .i64 x.by_] 127)).cell? ⟨bx, 0, none⟩ = some (.int .i64 n) := by
        rw [World.cell?_alloc_lt _ _ _ (World.block_lt_of_cell? _ _ hkr)]; exact hkr
      have HX := hid hx
      clear hc hx hl
      cases hq : (x.by_ == n)
      · go_wp2
        go_roundg (l.length + 1 - (i + 1))
        case measure => rw [HN.out]; omega
        case rel =>
          refine ⟨i + 1, by go_num, by omega, rfl, fun j hj y hy => ?_, hb.alloc hb.size _⟩
          by_cases hji : j = i
          · subst hji; rw [HX.out] at hy; cases hy; exact hq
          · exact HNO.out j (by omega) y hy
      · go_wp2
        go_ret
        exact ⟨by rw [idxP_found HX.out hq HNO.out]; rfl, hb.alloc hb.size _⟩
    · have : i = l.length := by omega
      subst this
      go_wp2
      go_ret
      exact ⟨by rw [idxP_none HNO.out]; rfl, hb⟩
theorem clo_it (x : It) (n : Int) (bx : Nat) (w : World) (hk : w.cell? ⟨bx, 0, none⟩ = some (.int .i64 n)) :
    Calls Tryz.prog 113 #[.agg #[.int .i64 x.num, .int .u64 x.val, .int .i64 x.by_], .pointer (some ⟨bx, 0, none⟩)] w fun e w' => e = .returned (.bool (x.by_ == n)) ∧ w' = w.alloc (.cells #[.int .i64 x.num, .int .u64 x.val, .int .i64 x.by_] 127) := by
  have hk' : (w.alloc (.cells #[.int .i64 x.num, .int .u64 x.val, .int .i64 x.by_] 127)).cell? ⟨bx, 0, none⟩ = some (.int .i64 n) := by
    rw [World.cell?_alloc_lt _ _ _ (World.block_lt_of_cell? _ _ hk)]; exact hk
  go_enter Tryz.func113, Tryz.ntmps113
  go_wp2
  go_ret
  exact ⟨rfl, rfl⟩
set_option maxRecDepth 100000 in
set_option maxHeartbeats 4000000 in
theorem del_it (v : Value) (l : List It) (n : Int) (bx : Nat) (w : World) (hr : FR eIt 127 w v l) (hk : w.cell? ⟨bx, 0, none⟩ = some (.int .i64 n)) (hne : v.ownBlock ≠ some bx) (hn : l.length ≤ 1000000) :
    Calls Tryz.prog 112 #[v, .func (.func 113) #[] #[.pointer (some ⟨bx, 0, none⟩)]] w fun e w' => ∃ v', e = .returned v' ∧ FR eIt 127 w' v' (l.filter (fun x => !(x.by_ == n))) ∧ v'.ownBlock = v.ownBlock ∧ Fr (fun k => v.ownBlock = some k) w w' := by
  obtain ⟨A, c, rfl, hc, hat⟩ := hr.at_
  have hix := idx_it A l c n bx w hat hk (by omega)
  have HR := hid hr
  have HIX := hid hix
  have HNE := hid hne
  have HK := hid hk
  clear hr hix hat hne hk
  go_enter Tryz.func112, Tryz.ntmps112
  go_wp2_with fail
  refine HIX.out.mono ?_
  rintro e w1 ⟨rfl, f1⟩
  rcases idxP_cases (fun x : It => x.by_ == n) l with ⟨e1, e2⟩ | ⟨k, hkl, e1, hp, hno⟩
  · have E2 := hid e2
    rw [e1]
    clear e1 e2
    go_wp2_with fail
    go_ret
    exact ⟨_, rfl, by rw [E2.out]; exact HR.out.below f1, rfl, (Fr.of_below f1 (Nat.le_refl _)).mono (fun _ q => q.elim)⟩
  · have HS := hid (DelI.start (p := fun x : It => x.by_ == n) hkl hp hno)
    rw [e1]
    obtain ⟨g, rfl⟩ := HR.out.form (by omega)
    have hk1 : ((k : Int) == -1) = false := by
      simp
    have hbg : bx ≠ g := fun q => HNE.out (by rw [q]; rfl)
    have hr1 := HR.out.below f1
    have hkb := (f1.cell (World.block_lt_of_cell? _ _ HK.out)).trans HK.out
    clear e1 hp hno HIX
    go_wp2_with fail
    go_loopg [5, 6] (l.length - k) (fun m v5 v6 wr => ∃ (i j : Nat) (Y : List It), v5 = .int .i64 i ∧ v6 = .int .i64 j ∧ m = l.length + 1 - j ∧ DelI (fun x : It => x.by_ == n) l Y i j ∧ FR eIt 127 wr (.slice (some ⟨g, 0, none⟩) l.length c) Y ∧ wr.cell? ⟨bx, 0, none⟩ = some (.int .i64 n) ∧ Fr (fun k => k = g) w wr)
    case atStart => exact ⟨k, k + 1, l, rfl, by go_num, by omega, HS.out, hr1, hkb, (Fr.of_below f1 (Nat.le_refl _)).mono (fun _ q => q.elim)⟩
    case round =>
      clear hr1 hkb HS
      obtain ⟨i, j, Y, rfl, rfl, hm, hI, hrY, hkr, hfr⟩ := hrel
      have HM := hid hm
      have HI := hid hI
      have HRY := hid hrY
      have hij := hI.2.1
      have hjl := hI.2.2.1
      have hYl := hI.1
      clear hm hI
      by_cases h1 : j < l.length
      · obtain ⟨x, hx⟩ : ∃ x, l[j]? = some x := ⟨_, List.getElem?_eq_getElem h1⟩
        have hxY : Y[j]? = some x := HI.out.get.trans hx
        obtain ⟨A', c', hv, hc', hatY⟩ := hrY.at_
        rw [hYl] at hv
        cases hv
        obtain ⟨b', off, he, hbb, hcc⟩ := hatY j x hxY
        cases he
        have k0 : wr.cell? ⟨g, 0 + j * 3, none⟩ = some (.int .i64 x.num) := hcc 0 _ rfl
        have k1 : wr.cell? ⟨g, 0 + j * 3 + 1, none⟩ = some (.int .u64 x.val) := hcc 1 _ rfl
        have k2 : wr.cell? ⟨g, 0 + j * 3 + 2, none⟩ = some (.int .i64 x.by_) := hcc 2 _ rfl
        rw [Nat.zero_add] at k0 k1 k2
        have hba : Below wr.heap.size wr (wr.alloc (.cells #[.int .i64 x.num, .int .u64 x.val, .int .i64 x.by_] 127)) := (Below.refl _ _).alloc (Nat.le_refl _) _
        have hxa : (wr.alloc (.cells #[.int .i64 x.num, .int .u64 x.val, .int .i64 x.by_] 127)).heap[wr.heap.size]? = some (.cells #[.int .i64 x.num, .int .u64 x.val, .int .i64 x.by_] 127 (0, 0)) := (MapKept.heap_alloc wr _).1
        have hka := (hba.cell (World.block_lt_of_cell? _ _ hkr)).trans hkr
        have hra := hrY.below hba
        have hfa := hfr.alloc (.cells #[.int .i64 x.num, .int .u64 x.val, .int .i64 x.by_] 127)
        have hbb2 : Below (wr.alloc (.cells #[.int .i64 x.num, .int .u64 x.val, .int .i64 x.by_] 127)).heap.size (wr.alloc (.cells #[.int .i64 x.num, .int .u64 x.val, .int .i64 x.by_] 127)) ((wr.alloc (.cells #[.int .i64 x.num, .int .u64 x.val, .int .i64 x.by_] 127)).alloc (.cells #[.int .i64 x.num, .int .u64 x.val, .int .i64 x.by_] 127)) := (Below.refl _ _).alloc (Nat.le_refl _) _
        have hkb2 := (hbb2.cell (World.block_lt_of_cell? _ _ hka)).trans hka
        have hxb2 := (hbb2.block _ (blk_lt hxa)).trans hxa
        have hrb2 := hra.below hbb2
        have hfb2 := hfa.alloc (.cells #[.int .i64 x.num, .int .u64 x.val, .int .i64 x.by_] 127)
        have e0 : ((wr.alloc (.cells #[.int .i64 x.num, .int .u64 x.val, .int .i64 x.by_] 127)).alloc (.cells #[.int .i64 x.num, .int .u64 x.val, .int .i64 x.by_] 127)).cell? ⟨wr.heap.size, 0, none⟩ = some (.int .i64 x.num) := by rw [cell_of_row _ _ 0 _ _ _ hxb2]; rfl
        have e1 : ((wr.alloc (.cells #[.int .i64 x.num, .int .u64 x.val, .int .i64 x.by_] 127)).alloc (.cells #[.int .i64 x.num, .int .u64 x.val, .int .i64 x.by_] 127)).cell? ⟨wr.heap.size, 1, none⟩ = some (.int .u64 x.val) := by rw [cell_of_row _ _ 1 _ _ _ hxb2]; rfl
        have e2 : ((wr.alloc (.cells #[.int .i64 x.num, .int .u64 x.val, .int .i64 x.by_] 127)).alloc (.cells #[.int .i64 x.num, .int .u64 x.val, .int .i64 x.by_] 127)).cell? ⟨wr.heap.size, 2, none⟩ = some (.int .i64 x.by_) := by rw [cell_of_row _ _ 2 _ _ _ hxb2]; rfl
        have HRB := hid hrb2
        have HFB := hid hfb2
        have HX := hid hx
        have HXA := hid hxa
        clear hbb2 hxb2 hrb2 hfb2 hfa
        have HRA := hid hra
        clear hcc hatY hx hxY hxa hra hba hrY
        cases hq : (x.by_ == n)
        · obtain ⟨co, hcl, hcM, hcc2, hcz⟩ := Kd.R_elem HRB.out ⟨0, 0, 0⟩ (i : Int) (by omega) (by omega)
          have hcl3 : co.length = 3 := hcl
          have hM : co.take 0 ++ encIt x ++ co.drop (0 + (encIt x).length) = encIt x := by
            rw [List.drop_eq_nil_of_le (by rw [hcl3]; simp [encIt])]
            simp
          have HCC := hid hcc2
          have HM3 := hid hM
          have hij2 : (i : Int) < l.length := by omega
          clear hcc2 hM hcM hcz
          go_wp2_with fail
          refine (clo_it x n bx _ hka).mono ?_
          rintro e w7 ⟨rfl, rfl⟩
          rw [hq]
          go_wp2_with ((with_reducible refine gate_ (.store 127 (.tmp 33) (.tmp 32)) rfl ?_); refine Kd.R_store eIt.kd (w0 := ((wr.alloc (.cells #[.int .i64 x.num, .int .u64 x.val, .int .i64 x.by_] 127)).alloc (.cells #[.int .i64 x.num, .int .u64 x.val, .int .i64 x.by_] 127))) 0 (o' := i * 3) (g := g) (n := l.length) (cap := c) rfl rfl 127 (.tmp 33) (.tmp 32) rfl 127 (i : Int) 0 Y x (.agg #[.int .i64 x.num, .int .u64 x.val, .int .i64 x.by_]) (encIt x) co (fun _ => True) (fun _ => False) rfl (by simp [eIt, Enc.kd]) rfl rfl (by kernel_rfl) (eIt.one x) HRB.out (by omega) (by omega) hcl HCC.out (by simp [eIt, Enc.kd, encIt]) HM3.out (fun _ q => q.elim) (Below.refl _ _) ?_; intro w8 hrow8 hb8 hg8; have hk8 := (hg8.block _ (World.block_lt_of_cell? _ _ hkb2) (fun q => by cases q; exact hbg rfl)); have HK8 := hid ((World.cell?_of_block (a := ⟨bx, 0, none⟩) hk8).trans hkb2); have HROW8 := hid hrow8; have HF8 := hid (HFB.out.trans (Fr.of_grown hg8) (fun i hi => .inl (by cases hi; rfl))); clear hk8 hrow8 hb8 hg8)
          go_roundg (l.length + 1 - (j + 1))
          case measure => rw [HM.out]; omega
          case rel => exact ⟨i + 1, j + 1, _, by go_num, by go_num, rfl, HI.out.keep HX.out hq, HROW8.out, HK8.out, HF8.out⟩
        · go_wp2_with fail
          refine (clo_it x n bx _ hka).mono ?_
          rintro e w7 ⟨rfl, rfl⟩
          rw [hq]
          go_wp2_with fail
          go_roundg (l.length + 1 - (j + 1))
          case measure => rw [HM.out]; omega
          case rel => exact ⟨i, j + 1, Y, rfl, by go_num, rfl, HI.out.skip HX.out hq, HRB.out, hkb2, HFB.out⟩
      · have hjl2 : j = l.length := by omega
        have hZ : (Builtin.zeroCells #[.int .i64 0, .int .u64 0, .int .i64 0] (l.length - i)).toList.length = (l.length - i) * 3 := zeros_len _ _
        obtain ⟨hcr, hcf⟩ := HRY.out.clear (i := i) (by omega) (Builtin.zeroCells #[.int .i64 0, .int .u64 0, .int .i64 0] (l.length - i)).toList (by rw [hZ]; show i * 3 + _ ≤ _ * 3; omega)
        have hcl : ∀ ty, (Builtin.clear_ #[75] ty #[.slice (some ⟨g, i * 3, none⟩) (l.length - i) (c - i)]).run Tryz.prog wr = .ok (.tuple #[]) (wr.setCells g (i * 3) (Builtin.zeroCells #[.int .i64 0, .int .u64 0, .int .i64 0] (l.length - i)).toList) :=
          fun ty => run_clear_row wr 75 127 ty (.agg #[.int .i64 0, .int .u64 0, .int .i64 0]) Tryz.underlying75 zero127 g (i * 3) _ _ (by omega) (fun j hj => HRY.out.has (by show _ < _ * 3; have hj' : j < (l.length - i) * 3 := (by rw [← hZ]; exact hj); omega)) (zeros_one (by decide) (eIt.one ⟨0, 0, 0⟩))
        have HCR := hid hcr
        have HCF := hid hcf
        have hil : i ≤ l.length := by omega
        have hil2 : (i : Int) ≤ l.length := by omega
        have hic : (i : Int) ≤ c := by omega
        have hlc : (l.length : Int) ≤ c := by omega
        clear hcr hcf hrY hZ
        go_wp2
        go_ret
        refine ⟨_, rfl, ?_, rfl, hfr.trans HCF.out (fun i hi => .inl hi) |>.mono (fun k hk => by rw [hk]; rfl)⟩
        have := HCR.out
        rw [HI.out.done hjl2] at this
        exact this
end Go.Proofs.YtdejbinmnoabeaaGreat.Q
namespace Go.Proofs.YtdejbinmnoabeaaGreat.Q
open Go.RowKit Go.Mine Go.Proofs.YtdejbinmnoabeaaGreatW.PrintWords
set_option linter.unusedVariables false
set_option linter.unusedSimpArgs false
structure WI where
  n : Int
  wb : Nat
  v : Value
  l : List Ch
  p : Bool
def eWI : Enc WI := ⟨1, fun x => [ptrV x.wb], fun _ => rfl, fun x u hu => by simp at hu; subst hu; rfl⟩
theorem clo_wp (wb : Nat) (m n : Int) (bx : Nat) (w : World) (hm : w.cell? ⟨wb, 0, none⟩ = some (.int .i64 m)) (hk : w.cell? ⟨bx, 0, none⟩ = some (.int .i64 n)) :
    Calls Tryz.prog 120 #[.pointer (some ⟨wb, 0, none⟩), .pointer (some ⟨bx, 0, none⟩)] w fun e w' => e = .returned (.bool (m == n)) ∧ ∃ q, w' = w.drewN q := by
  go_enter Tryz.func120, Tryz.ntmps120
  go_wp2_with fail
  go_quiet (fail)
  go_wp2_with fail
  go_ret
  exact ⟨rfl, _, rfl⟩
set_option maxHeartbeats 1000000 in
theorem idx_wp (A : Option Addr) (l : List WI) (c : Nat) (n : Int) (bx : Nat) (w : World) (hl : RowAt eWI.f 1 w w.heap.size A l) (hw : ∀ x ∈ l, w.cell? ⟨x.wb, 0, none⟩ = some (.int .i64 x.n)) (hk : w.cell? ⟨bx, 0, none⟩ = some (.int .i64 n)) (hn : l.length ≤ 1000000000000) :
    Calls Tryz.prog 121 #[.slice A l.length c, .func (.func 120) #[] #[.pointer (some ⟨bx, 0, none⟩)]] w fun e w' => e = .returned (.int .i64 (idxP (fun x => x.n == n) l)) ∧ Below w.heap.size w w' := by
  have hbx : bx < w.heap.size := World.block_lt_of_cell? _ _ hk
  have HW := hid hw
  clear hw
  go_enter Tryz.func121, Tryz.ntmps121
  go_wp2_with fail
  go_loopg [8] (l.length + 1) (fun m v wr => ∃ i : Nat, v = .int .i64 i ∧ i ≤ l.length ∧ m = l.length + 1 - i ∧ (∀ j, j < i → ∀ y, l[j]? = some y → (y.n == n) = false) ∧ Below w.heap.size w wr)
  case atStart => exact ⟨0, rfl, Nat.zero_le _, rfl, fun j hj => absurd hj (by omega), Below.refl _ _⟩
  case round =>
    obtain ⟨i, rfl, hi, hn', hno, hb⟩ := hrel
    have HN := hid hn'
    have HNO := hid hno
    clear hn' hno
    by_cases h1 : i < l.length
    · obtain ⟨x, hx⟩ : ∃ x, l[i]? = some x := ⟨_, List.getElem?_eq_getElem h1⟩
      obtain ⟨b, off, rfl, hb1, hc⟩ := (hl.below hb) i x hx
      have k0 : wr.cell? ⟨b, off + i, none⟩ = some (ptrV x.wb) := by have := hc 0 _ rfl; simpa using this
      have hkr := (hb.cell (p := ⟨bx, 0, none⟩) hbx).trans hk
      have hwx := HW.out x (List.mem_of_getElem? hx)
      have hwr := (hb.cell (World.block_lt_of_cell? _ _ hwx)).trans hwx
      have HX := hid hx
      have HC := hid (clo_wp x.wb x.n n bx wr hwr hkr)
      clear hc hx hl hwx hwr
      cases hq : (x.n == n)
      · go_wp2_with fail
        refine HC.out.mono ?_
        rintro e w2 ⟨rfl, q, rfl⟩
        rw [hq]
        go_wp2_with fail
        go_roundg (l.length + 1 - (i + 1))
        case measure => rw [HN.out]; omega
        case rel =>
          refine ⟨i + 1, by go_num, by omega, rfl, fun j hj y hy => ?_, hb.trans ((bdN wr q).mono hb.size)⟩
          by_cases hji : j = i
          · subst hji; rw [HX.out] at hy; cases hy; exact hq
          · exact HNO.out j (by omega) y hy
      · go_wp2_with fail
        refine HC.out.mono ?_
        rintro e w2 ⟨rfl, q, rfl⟩
        rw [hq]
        go_wp2_with fail
        go_ret
        exact ⟨by rw [idxP_found HX.out hq HNO.out]; rfl, hb.trans ((bdN wr q).mono hb.size)⟩
    · have : i = l.length := by omega
      subst this
      go_wp2_with fail
      go_ret
      exact ⟨by rw [idxP_none HNO.out]; rfl, hb⟩
set_option maxRecDepth 100000 in
set_option maxHeartbeats 4000000 in
theorem del_wp (v : Value) (l : List WI) (n : Int) (bx : Nat) (w : World) (hr : FR eWI 119 w v l) (hw : ∀ x ∈ l, w.cell? ⟨x.wb, 0, none⟩ = some (.int .i64 x.n) ∧ v.ownBlock ≠ some x.wb) (hk : w.cell? ⟨bx, 0, none⟩ = some (.int .i64 n)) (hne : v.ownBlock ≠ some bx) (hn : l.length ≤ 1000000) :
    Calls Tryz.prog 119 #[v, .func (.func 120) #[] #[.pointer (some ⟨bx, 0, none⟩)]] w fun e w' => ∃ v', e = .returned v' ∧ FR eWI 119 w' v' (l.filter (fun x => !(x.n == n))) ∧ v'.ownBlock = v.ownBlock ∧ Fr (fun k => v.ownBlock = some k) w w' := by
  obtain ⟨A, c, rfl, hc, hat⟩ := hr.at_
  have hix := idx_wp A l c n bx w hat (fun x hx => (hw x hx).1) hk (by omega)
  have HW := hid hw
  have HR := hid hr
  have HIX := hid hix
  have HNE := hid hne
  have HK := hid hk
  clear hr hix hat hne hk hw
  go_enter Tryz.func119, Tryz.ntmps119
  go_wp2_with fail
  refine HIX.out.mono ?_
  rintro e w1 ⟨rfl, f1⟩
  rcases idxP_cases (fun x : WI => x.n == n) l with ⟨e1, e2⟩ | ⟨k, hkl, e1, hp, hno⟩
  · have E2 := hid e2
    rw [e1]
    clear e1 e2
    go_wp2_with fail
    go_ret
    exact ⟨_, rfl, by rw [E2.out]; exact HR.out.below f1, rfl, (Fr.of_below f1 (Nat.le_refl _)).mono (fun _ q => q.elim)⟩
  · have HS := hid (DelI.start (p := fun x : WI => x.n == n) hkl hp hno)
    rw [e1]
    obtain ⟨g, rfl⟩ := HR.out.form (by omega)
    have hk1 : ((k : Int) == -1) = false := by
      simp
    have hbg : bx ≠ g := fun q => HNE.out (by rw [q]; rfl)
    have hr1 := HR.out.below f1
    have hkb := (f1.cell (World.block_lt_of_cell? _ _ HK.out)).trans HK.out
    clear e1 hp hno HIX
    go_wp2_with fail
    go_loopg [5, 6] (l.length - k) (fun m v5 v6 wr => ∃ (i j : Nat) (Y : List WI), v5 = .int .i64 i ∧ v6 = .int .i64 j ∧ m = l.length + 1 - j ∧ DelI (fun x : WI => x.n == n) l Y i j ∧ FR eWI 119 wr (.slice (some ⟨g, 0, none⟩) l.length c) Y ∧ wr.cell? ⟨bx, 0, none⟩ = some (.int .i64 n) ∧ Fr (fun k => k = g) w wr)
    case atStart => exact ⟨k, k + 1, l, rfl, by go_num, by omega, HS.out, hr1, hkb, (Fr.of_below f1 (Nat.le_refl _)).mono (fun _ q => q.elim)⟩
    case round =>
      clear hr1 hkb HS
      obtain ⟨i, j, Y, rfl, rfl, hm, hI, hrY, hkr, hfr⟩ := hrel
      have HM := hid hm
      have HI := hid hI
      have HRY := hid hrY
      have hij := hI.2.1
      have hjl := hI.2.2.1
      have hYl := hI.1
      clear hm hI
      by_cases h1 : j < l.length
      · obtain ⟨x, hx⟩ : ∃ x, l[j]? = some x := ⟨_, List.getElem?_eq_getElem h1⟩
        have hxY : Y[j]? = some x := HI.out.get.trans hx
        obtain ⟨A', c', hv, hc', hatY⟩ := hrY.at_
        rw [hYl] at hv
        cases hv
        obtain ⟨b', off, he, hbb, hcc⟩ := hatY j x hxY
        cases he
        have k0 : wr.cell? ⟨g, j, none⟩ = some (ptrV x.wb) := by have := hcc 0 _ rfl; simpa [eWI] using this
        have hwx := HW.out x (List.mem_of_getElem? hx)
        have hwr := hfr.cell hwx.1 (fun q => hwx.2 (by rw [show x.wb = g from q]; rfl))
        have HC := hid (clo_wp x.wb x.n n bx wr hwr hkr)
        have hkb2 := fun q => ((bdN wr q).cell (World.block_lt_of_cell? _ _ hkr)).trans hkr
        have HRB := hid (fun q => hrY.below (bdN wr q))
        have HFB := hid (fun q => hfr.drewN q)
        have HX := hid hx
        clear hcc hatY hx hxY hrY hwx hwr
        cases hq : (x.n == n)
        · go_wp2_with fail
          refine HC.out.mono ?_
          rintro e w7 ⟨rfl, q7, rfl⟩
          rw [hq]
          obtain ⟨co, hcl, hcM, hcc2, hcz⟩ := Kd.R_elem (HRB.out q7) x (i : Int) (by omega) (by omega)
          have hcl1 : co.length = 1 := hcl
          have hM : co.take 0 ++ [ptrV x.wb] ++ co.drop (0 + [ptrV x.wb].length) = [ptrV x.wb] := by
            rw [List.drop_eq_nil_of_le (by rw [hcl1]; simp)]
            simp
          have HCC := hid hcc2
          have HM3 := hid hM
          have hij2 : (i : Int) < l.length := by omega
          clear hcc2 hM hcM hcz
          go_wp2_with ((with_reducible refine gate_ (.store 119 (.tmp 33) (.tmp 32)) rfl ?_); refine Kd.R_store eWI.kd (w0 := wr.drewN q7) 0 (o' := i) (g := g) (n := l.length) (cap := c) rfl rfl 119 (.tmp 33) (.tmp 32) rfl 119 (i : Int) 0 Y x (ptrV x.wb) [ptrV x.wb] co (fun _ => True) (fun _ => False) rfl (by simp [eWI, Enc.kd]) rfl rfl (by kernel_rfl) (eWI.one x) (HRB.out q7) (by omega) (by omega) hcl HCC.out (by simp [eWI, Enc.kd]) HM3.out (fun _ q => q.elim) (Below.refl _ _) ?_; intro w8 hrow8 hb8 hg8; have hk8 := (hg8.block _ (World.block_lt_of_cell? _ _ (hkb2 q7)) (fun q => by cases q; exact hbg rfl)); have HK8 := hid ((World.cell?_of_block (a := ⟨bx, 0, none⟩) hk8).trans (hkb2 q7)); have HROW8 := hid hrow8; have HF8 := hid ((HFB.out q7).trans (Fr.of_grown hg8) (fun i hi => .inl (by cases hi; rfl))); clear hk8 hrow8 hb8 hg8)
          go_roundg (l.length + 1 - (j + 1))
          case measure => rw [HM.out]; omega
          case rel => exact ⟨i + 1, j + 1, _, by go_num, by go_num, rfl, HI.out.keep HX.out hq, HROW8.out, HK8.out, HF8.out⟩
        · go_wp2_with fail
          refine HC.out.mono ?_
          rintro e w7 ⟨rfl, q7, rfl⟩
          rw [hq]
          go_wp2_with fail
          go_roundg (l.length + 1 - (j + 1))
          case measure => rw [HM.out]; omega
          case rel => exact ⟨i, j + 1, Y, rfl, by go_num, rfl, HI.out.skip HX.out hq, HRB.out q7, hkb2 q7, HFB.out q7⟩
      · have hjl2 : j = l.length := by omega
        have hZ : (Builtin.zeroCells #[Value.pointer none] (l.length - i)).toList.length = (l.length - i) * 1 := zeros_len _ _
        obtain ⟨hcr, hcf⟩ := HRY.out.clear (i := i) (by omega) (Builtin.zeroCells #[Value.pointer none] (l.length - i)).toList (by rw [hZ]; show i * 1 + _ ≤ _ * 1; omega)
        have hcl : ∀ ty, (Builtin.clear_ #[76] ty #[.slice (some ⟨g, i, none⟩) (l.length - i) (c - i)]).run Tryz.prog wr = .ok (.tuple #[]) (wr.setCells g i (Builtin.zeroCells #[Value.pointer none] (l.length - i)).toList) :=
          fun ty => run_clear_row wr 76 119 ty (.pointer none) Tryz.underlying76 zero119 g i _ _ (by omega) (fun j hj => HRY.out.has (by show _ < _ * 1; have hj' : j < (l.length - i) * 1 := (by rw [← hZ]; exact hj); omega)) (zeros_one (by decide) (fun u hu => by rw [List.mem_singleton.1 hu]; rfl))
        have hcr2 : FR eWI 119 (wr.setCells g i (Builtin.zeroCells #[Value.pointer none] (l.length - i)).toList) (.slice (some ⟨g, 0, none⟩) i c) (Y.take i) := by have := hcr; rw [show i * eWI.sz = i from Nat.mul_one i] at this; exact this
        have hcf2 : Fr (fun k => k = g) wr (wr.setCells g i (Builtin.zeroCells #[Value.pointer none] (l.length - i)).toList) := by have := hcf; rw [show i * eWI.sz = i from Nat.mul_one i] at this; exact this
        have HCR := hid hcr2
        have HCF := hid hcf2
        have hil : i ≤ l.length := by omega
        have hil2 : (i : Int) ≤ l.length := by omega
        have hic : (i : Int) ≤ c := by omega
        have hlc : (l.length : Int) ≤ c := by omega
        clear hcr hcf hrY hZ hcr2 hcf2
        go_wp2
        go_ret
        refine ⟨_, rfl, ?_, rfl, hfr.trans HCF.out (fun i hi => .inl hi) |>.mono (fun k hk => by rw [hk]; rfl)⟩
        have := HCR.out
        rw [HI.out.done hjl2] at this
        exact this
end Go.Proofs.YtdejbinmnoabeaaGreat.Q
namespace Go.Proofs.YtdejbinmnoabeaaGreat.Q
open Go.RowKit Go.Mine Go.Proofs.YtdejbinmnoabeaaGreatW.PrintWords
set_option linter.unusedVariables false
set_option linter.unusedSimpArgs false
def Grew (F F' : Nat → Prop) (w : World) : Prop := ∀ i, F' i → F i ∨ w.heap.size ≤ i
theorem Grew.refl (F : Nat → Prop) (w : World) : Grew F F w := fun _ h => .inl h
theorem Grew.trans {F F' F'' : Nat → Prop} {w w' : World} (h : Grew F F' w) (k : Grew F' F'' w') (hs : w.heap.size ≤ w'.heap.size) : Grew F F'' w := fun i hi => (k i hi).elim (h i) (fun q => .inr (Nat.le_trans hs q))
abbrev more (F : Nat → Prop) (w w' : World) : Nat → Prop := fun i => F i ∨ (w.heap.size ≤ i ∧ i < w'.heap.size)
theorem grew_more (F : Nat → Prop) (w w' : World) : Grew F (more F w w') w := fun i h => h.elim .inl (fun q => .inr q.1)
theorem more_lt {F : Nat → Prop} {w w' : World} (hb : ∀ i, F i → i < w.heap.size) (hs : w.heap.size ≤ w'.heap.size) : ∀ i, more F w w' i → i < w'.heap.size := fun i h => h.elim (fun q => Nat.lt_of_lt_of_le (hb i q) hs) (fun q => q.2)
theorem blk_set' {w : World} {b t : Nat} {cs : Array Value} (h : w.heap[b]? = some (.cells cs t (0, 0))) (j : Nat) (u : Value) : (w.setCell ⟨b, j, none⟩ u).heap[b]? = some (.cells (cs.setIfInBounds j u) t (0, 0)) := blk_set h j u
structure QT where
  te : Nat
  tq : Nat
  tp : Nat
  tw : Nat
  ne : (te ≠ tq ∧ te ≠ tp ∧ te ≠ tw ∧ te ≠ 90) ∧ (tq ≠ tp ∧ tq ≠ tw ∧ tq ≠ 90) ∧ (tp ≠ tw ∧ tp ≠ 90) ∧ tw ≠ 90
def T0 : QT := ⟨127, 82, 119, 138, by decide⟩
def T1 : QT := ⟨76, 55, 107, 87, by decide⟩
abbrev ChRow (w : World) (v : Value) (l : List Ch) : Prop := FR eCh 90 w v l
structure QZ where
  pre : List Value
  post : List Value
  h : pre.length = 34
def qCells (Zz : QZ) (iv qv : Value) (g : Int) : Array Value := (Zz.pre ++ (iv :: qv :: Value.int .i64 g :: Zz.post)).toArray
section
variable {Zz : QZ}
theorem qget_ (Zz : QZ) (iv qv : Value) (g : Int) (j : Nat) : (qCells Zz iv qv g)[34 + j]? = (iv :: qv :: Value.int .i64 g :: Zz.post)[j]? := by
  simp only [qCells, List.getElem?_toArray]
  rw [List.getElem?_append_right (by rw [Zz.h]; omega)]
  congr 1
  rw [Zz.h]
  omega
theorem qget0 (Zz : QZ) (iv qv : Value) (g : Int) : (qCells Zz iv qv g)[34]? = some iv := qget_ Zz iv qv g 0
theorem qget1 (Zz : QZ) (iv qv : Value) (g : Int) : (qCells Zz iv qv g)[35]? = some qv := qget_ Zz iv qv g 1
theorem qget2 (Zz : QZ) (iv qv : Value) (g : Int) : (qCells Zz iv qv g)[36]? = some (.int .i64 g) := qget_ Zz iv qv g 2
theorem qset_ (Zz : QZ) (l : List Value) (j : Nat) (u : Value) : (Zz.pre ++ l).toArray.setIfInBounds (34 + j) u = (Zz.pre ++ l.set j u).toArray := by
  simp only [List.setIfInBounds_toArray]
  congr 1
  rw [List.set_append_right _ _ (by rw [Zz.h]; omega)]
  congr 2
  rw [Zz.h]
  omega
theorem blk_q0 {w : World} {b t : Nat} {iv qv : Value} {g : Int} (h : w.heap[b]? = some (.cells (qCells Zz iv qv g) t (0, 0))) (u : Value) : (w.setCell ⟨b, 34, none⟩ u).heap[b]? = some (.cells (qCells Zz u qv g) t (0, 0)) := by
  have := blk_set h 34 u
  rw [show (qCells Zz iv qv g).setIfInBounds 34 u = qCells Zz u qv g from qset_ Zz _ 0 u] at this
  exact this
theorem blk_q1 {w : World} {b t : Nat} {iv qv : Value} {g : Int} (h : w.heap[b]? = some (.cells (qCells Zz iv qv g) t (0, 0))) (u : Value) : (w.setCell ⟨b, 35, none⟩ u).heap[b]? = some (.cells (qCells Zz iv u g) t (0, 0)) := by
  have := blk_set h 35 u
  rw [show (qCells Zz iv qv g).setIfInBounds 35 u = qCells Zz iv u g from qset_ Zz _ 1 u] at this
  exact this
theorem blk_q2 {w : World} {b t : Nat} {iv qv : Value} {g g' : Int} (h : w.heap[b]? = some (.cells (qCells Zz iv qv g) t (0, 0))) (u : Value) (hu : u = .int .i64 g' := by rfl) : (w.setCell ⟨b, 36, none⟩ u).heap[b]? = some (.cells (qCells Zz iv qv g') t (0, 0)) := by
  subst hu
  have := blk_set h 36 (.int .i64 g')
  rw [show (qCells Zz iv qv g).setIfInBounds 36 (.int .i64 g') = qCells Zz iv qv g' from qset_ Zz _ 2 _] at this
  exact this
end
structure QR (Zz : QZ) {α : Type} (E : Enc α) (T : QT) (F : Nat → Prop) (w : World) (b : Nat) (L : List α) (I : List WI) (g : Int) (iv qv : Value) : Prop where
  fb : ∀ i, F i → i < w.heap.size
  bF : F b
  blk : w.heap[b]? = some (.cells (qCells Zz iv qv (g)) T.tq (0, 0))
  it : FR E T.te w iv L
  wp : FR eWI T.tp w qv I
  iF : ∀ k, iv.ownBlock = some k → F k
  qF : ∀ k, qv.ownBlock = some k → F k
  wk : ∀ x ∈ I, F x.wb ∧ w.heap[x.wb]? = some (.cells #[.int .i64 x.n, x.v, .bool x.p] T.tw (0, 0)) ∧ ChRow w x.v x.l ∧ (∀ k, x.v.ownBlock = some k → F k)
  apart : I.Pairwise (fun x y => x.wb ≠ y.wb ∧ ∀ k, x.v.ownBlock = some k → y.v.ownBlock ≠ some k)
section
variable {Zz : QZ} {α : Type} {E : Enc α} {T : QT} {F F' : Nat → Prop} {w w' : World} {b : Nat} {L L' : List α} {I I' I1 I2 : List WI} {g g' : Int} {iv qv iv' qv' : Value}
theorem QR.fr {S : Nat → Prop} (h : QR Zz E T F w b L I g iv qv) (hf : Fr S w w') (hS : ∀ i, F i → ¬ S i) : QR Zz E T F w' b L I g iv qv where
  fb i hi := Nat.lt_of_lt_of_le (h.fb i hi) hf.size
  bF := h.bF
  blk := hf.at_ h.blk (hS _ h.bF)
  it := h.it.move (fun k hk => hf.block k (h.it.lt hk) (hS _ (h.iF k hk)))
  wp := h.wp.move (fun k hk => hf.block k (h.wp.lt hk) (hS _ (h.qF k hk)))
  iF := h.iF
  qF := h.qF
  wk x hx := ⟨(h.wk x hx).1, hf.at_ (h.wk x hx).2.1 (hS _ (h.wk x hx).1), (h.wk x hx).2.2.1.move (fun k hk => hf.block k ((h.wk x hx).2.2.1.lt hk) (hS _ ((h.wk x hx).2.2.2 k hk))), (h.wk x hx).2.2.2⟩
  apart := h.apart
theorem QR.below (h : QR Zz E T F w b L I g iv qv) (hb : Below w.heap.size w w') : QR Zz E T F w' b L I g iv qv := h.fr (Fr.of_below hb (Nat.le_refl _)) (fun _ _ q => q)
theorem QR.wb_ne (h : QR Zz E T F w b L I g iv qv) {x : WI} (hx : x ∈ I) : x.wb ≠ b ∧ iv.ownBlock ≠ some x.wb ∧ qv.ownBlock ≠ some x.wb := by
  have h1 := (h.wk x hx).2.1
  exact ⟨fun e => types_ne ⟨_, h1⟩ ⟨_, e ▸ h.blk⟩ T.ne.2.1.2.1.symm, fun e => types_ne (h.it.typed e) ⟨_, h1⟩ T.ne.1.2.2.1, fun e => types_ne (h.wp.typed e) ⟨_, h1⟩ T.ne.2.2.1.1⟩
theorem QR.row_ne (h : QR Zz E T F w b L I g iv qv) {x : WI} (hx : x ∈ I) {k : Nat} (hk : x.v.ownBlock = some k) : k ≠ b ∧ iv.ownBlock ≠ some k ∧ qv.ownBlock ≠ some k := by
  have h1 := (h.wk x hx).2.2.1.typed hk
  exact ⟨fun e => types_ne h1 ⟨_, e ▸ h.blk⟩ T.ne.2.1.2.2.symm, fun e => types_ne (h.it.typed e) h1 T.ne.1.2.2.2, fun e => types_ne (h.wp.typed e) h1 T.ne.2.2.1.2⟩
theorem QR.iv_ne (h : QR Zz E T F w b L I g iv qv) : iv.ownBlock ≠ some b ∧ qv.ownBlock ≠ some b ∧ ∀ k, iv.ownBlock = some k → qv.ownBlock ≠ some k :=
  ⟨fun e => types_ne (h.it.typed e) ⟨_, h.blk⟩ T.ne.1.1, fun e => types_ne (h.wp.typed e) ⟨_, h.blk⟩ T.ne.2.1.1.symm, fun k hk e => types_ne (h.it.typed hk) (h.wp.typed e) T.ne.1.2.1⟩
def Own3 (b : Nat) (iv qv : Value) : Nat → Prop := fun i => i = b ∨ iv.ownBlock = some i ∨ qv.ownBlock = some i
theorem QR.turn (h : QR Zz E T F w b L I g iv qv) (hf : Fr (Own3 b iv qv) w w') (hb : w'.heap[b]? = some (.cells (qCells Zz iv' qv' (g')) T.tq (0, 0)))
    (hi : FR E T.te w' iv' L') (hq : FR eWI T.tp w' qv' I') (hI : I'.Sublist I)
    (oi : ∀ j, iv'.ownBlock = some j → iv.ownBlock = some j ∨ w.heap.size ≤ j) (oq : ∀ j, qv'.ownBlock = some j → qv.ownBlock = some j ∨ w.heap.size ≤ j) :
    QR Zz E T (more F w w') w' b L' I' g' iv' qv' where
  fb := more_lt h.fb hf.size
  bF := .inl h.bF
  blk := hb
  it := hi
  wp := hq
  iF k hk := (oi k hk).elim (fun q => .inl (h.iF k q)) (fun q => .inr ⟨q, hi.lt hk⟩)
  qF k hk := (oq k hk).elim (fun q => .inl (h.qF k q)) (fun q => .inr ⟨q, hq.lt hk⟩)
  wk x hx := by
    have hxI := hI.subset hx
    have h1 := h.wk x hxI
    have h2 := h.wb_ne hxI
    refine ⟨.inl h1.1, hf.at_ h1.2.1 (fun q => ?_), h1.2.2.1.move (fun k hk => hf.block k (h1.2.2.1.lt hk) (fun q => ?_)), fun k hk => .inl (h1.2.2.2 k hk)⟩
    · rcases q with q | q | q
      · exact h2.1 q
      · exact h2.2.1 q
      · exact h2.2.2 q
    · have h3 := h.row_ne hxI hk
      rcases q with q | q | q
      · exact h3.1 q
      · exact h3.2.1 q
      · exact h3.2.2 q
  apart := h.apart.sublist hI
theorem QR.addw (h : QR Zz E T F w b L I g iv qv) {y : WI} (hf : Fr (Own3 b iv qv) w w') (hb : w'.heap[b]? = some (.cells (qCells Zz iv qv' (g)) T.tq (0, 0)))
    (hi : FR E T.te w' iv L) (hq : FR eWI T.tp w' qv' (I ++ [y])) (hy : w'.heap[y.wb]? = some (.cells #[.int .i64 y.n, y.v, .bool y.p] T.tw (0, 0)))
    (hyw : w.heap.size ≤ y.wb) (hyr : ChRow w' y.v y.l) (hyo : ∀ k, y.v.ownBlock = some k → w.heap.size ≤ k)
    (oq : ∀ j, qv'.ownBlock = some j → qv.ownBlock = some j ∨ w.heap.size ≤ j) :
    QR Zz E T (more F w w') w' b L (I ++ [y]) g iv qv' where
  fb := more_lt h.fb hf.size
  bF := .inl h.bF
  blk := hb
  it := hi
  wp := hq
  iF k hk := .inl (h.iF k hk)
  qF k hk := (oq k hk).elim (fun q => .inl (h.qF k q)) (fun q => .inr ⟨q, hq.lt hk⟩)
  wk x hx := by
    rcases List.mem_append.1 hx with hxI | hx
    · have h1 := h.wk x hxI
      have h2 := h.wb_ne hxI
      refine ⟨.inl h1.1, hf.at_ h1.2.1 (fun q => ?_), h1.2.2.1.move (fun k hk => hf.block k (h1.2.2.1.lt hk) (fun q => ?_)), fun k hk => .inl (h1.2.2.2 k hk)⟩
      · rcases q with q | q | q
        · exact h2.1 q
        · exact h2.2.1 q
        · exact h2.2.2 q
      · have h3 := h.row_ne hxI hk
        rcases q with q | q | q
        · exact h3.1 q
        · exact h3.2.1 q
        · exact h3.2.2 q
    · obtain rfl := List.mem_singleton.1 hx
      exact ⟨.inr ⟨hyw, (Array.getElem?_eq_some_iff.1 hy).1⟩, hy, hyr, fun k hk => .inr ⟨hyo k hk, hyr.lt hk⟩⟩
  apart := by
    rw [List.pairwise_append]
    refine ⟨h.apart, List.pairwise_singleton _ _, fun x hx z hz => ?_⟩
    obtain rfl := List.mem_singleton.1 hz
    have h1 := h.wk x hx
    refine ⟨fun e => ?_, fun k hk e => ?_⟩
    · have := h.fb _ h1.1
      omega
    · have h2 := h1.2.2.1.lt hk
      have h3 := hyo k e
      omega
theorem FR.congr {β : Type} {E : Enc β} {e : Nat} {w : World} {v : Value} {l l' : List β} (h : FR E e w v l) (he : l.map E.f = l'.map E.f) : FR E e w v l' := by
  obtain ⟨h0, inner, ho, hr⟩ := h
  have hl : l.length = l'.length := by simpa using congrArg List.length he
  rw [hl] at ho
  refine ⟨h0, inner, ho, by rw [← hl]; exact hr.1, fun i x hx => ?_⟩
  have h1 : (l.map E.f)[i]? = some (E.f x) := by rw [he, List.getElem?_map, hx]; rfl
  rw [List.getElem?_map] at h1
  cases hy : l[i]? with
  | none => rw [hy] at h1; cases h1
  | some y =>
    rw [hy] at h1
    have h2 : E.f y = E.f x := by simpa using h1
    have h3 := hr.2 i y hy
    have h4 : (inner.drop (i * E.sz)).take E.sz = E.f y := h3
    show (inner.drop (i * E.sz)).take E.sz = E.f x
    rw [h4, h2]
theorem QR.work {x : WI} {v' : Value} {l' : List Ch} {p' : Bool} (h : QR Zz E T F w b L (I1 ++ x :: I2) g iv qv) (hf : Fr (fun i => i = x.wb ∨ x.v.ownBlock = some i) w w')
    (hb : w'.heap[x.wb]? = some (.cells #[.int .i64 x.n, v', .bool p'] T.tw (0, 0))) (hr : ChRow w' v' l') (hv : v'.ownBlock = x.v.ownBlock ∨ ∃ b, v'.ownBlock = some b ∧ w.heap.size ≤ b) :
    QR Zz E T (more F w w') w' b L (I1 ++ ⟨x.n, x.wb, v', l', p'⟩ :: I2) g iv qv := by
  have hxm : x ∈ I1 ++ x :: I2 := by simp
  have hx := h.wk x hxm
  have hxn := h.wb_ne hxm
  have hno : ∀ k t, (∃ cells, w.heap[k]? = some (.cells cells t (0, 0))) → t ≠ T.tw → t ≠ 90 → ¬ (k = x.wb ∨ x.v.ownBlock = some k) := by
    intro k t hk h1 h2 q
    rcases q with q | q
    · subst q; exact types_ne hk ⟨_, hx.2.1⟩ h1
    · exact types_ne hk (hx.2.2.1.typed q) h2
  have hap := h.apart
  rw [List.pairwise_append] at hap
  obtain ⟨ha1, ha2, ha3⟩ := hap
  rw [List.pairwise_cons] at ha2
  have hvF : ∀ k, v'.ownBlock = some k → more F w w' k := by
    intro k hk
    rcases hv with q | ⟨b, q, hb'⟩
    · exact .inl (hx.2.2.2 k (q ▸ hk))
    · rw [hk] at q; cases q; exact .inr ⟨hb', hr.lt hk⟩
  have hoth : ∀ y ∈ I1 ++ x :: I2, y.wb ≠ x.wb → (∀ k, y.v.ownBlock = some k → x.v.ownBlock ≠ some k) → more F w w' y.wb ∧ w'.heap[y.wb]? = some (.cells #[.int .i64 y.n, y.v, .bool y.p] T.tw (0, 0)) ∧ ChRow w' y.v y.l ∧ (∀ k, y.v.ownBlock = some k → more F w w' k) := by
    intro y hy h1 h2
    have hyk := h.wk y hy
    refine ⟨.inl hyk.1, hf.at_ hyk.2.1 (fun q => q.elim h1 (fun q => types_ne (hx.2.2.1.typed q) ⟨_, hyk.2.1⟩ T.ne.2.2.2.symm)), hyk.2.2.1.move (fun k hk => hf.block k (hyk.2.2.1.lt hk) (fun q => ?_)), fun k hk => .inl (hyk.2.2.2 k hk)⟩
    rcases q with q | q
    · subst q; exact types_ne (hyk.2.2.1.typed hk) ⟨_, hx.2.1⟩ T.ne.2.2.2.symm
    · exact h2 k hk q
  refine ⟨more_lt h.fb hf.size, .inl h.bF, hf.at_ h.blk (hno _ _ ⟨_, h.blk⟩ T.ne.2.1.2.1 T.ne.2.1.2.2), h.it.move (fun k hk => hf.block k (h.it.lt hk) (hno _ _ (h.it.typed hk) T.ne.1.2.2.1 T.ne.1.2.2.2)), ?_, fun k hk => .inl (h.iF k hk), fun k hk => .inl (h.qF k hk), ?_, ?_⟩
  · exact FR.congr (h.wp.move (fun k hk => hf.block k (h.wp.lt hk) (hno _ _ (h.wp.typed hk) T.ne.2.2.1.1 T.ne.2.2.1.2))) (by simp [eWI])
  · intro y hy
    rcases List.mem_append.1 hy with hy | hy
    · have h1 := ha3 y hy x (by simp)
      exact hoth y (by simp [hy]) h1.1 (fun k hk q => h1.2 k hk q)
    · rcases List.mem_cons.1 hy with rfl | hy
      · exact ⟨.inl hx.1, hb, hr, hvF⟩
      · have h1 := ha2.1 y hy
        exact hoth y (by simp [hy]) (fun q => h1.1 q.symm) (fun k hk q => h1.2 k q hk)
  · have hnew : ∀ y ∈ I1 ++ x :: I2, (∀ k, y.v.ownBlock = some k → x.v.ownBlock ≠ some k) → ∀ k, y.v.ownBlock = some k → v'.ownBlock ≠ some k := by
      intro y hy h2 k hk q
      have hyk := h.wk y hy
      rcases hv with e | ⟨b, e, hb'⟩
      · exact h2 k hk (e ▸ q)
      · rw [q] at e; cases e
        have := hyk.2.2.1.lt hk
        omega
    rw [List.pairwise_append]
    refine ⟨ha1, ?_, ?_⟩
    · rw [List.pairwise_cons]
      refine ⟨fun y hy => ⟨(ha2.1 y hy).1, fun k hk q => ?_⟩, ha2.2⟩
      exact hnew y (by simp [hy]) (fun j hj e => (ha2.1 y hy).2 j e hj) k q hk
    · intro y hy z hz
      rcases List.mem_cons.1 hz with rfl | hz
      · have h1 := ha3 y hy x (by simp)
        exact ⟨h1.1, fun k hk => hnew y (by simp [hy]) h1.2 k hk⟩
      · exact ha3 y hy z (by simp [hz])
end
def wsOf (I : List WI) : List (Int × KW) := I.map (fun x => (x.n, (⟨x.l, x.p⟩ : KW)))
theorem aget_ws (n : Int) (I : List WI) : aget n (wsOf I) = (I.find? (fun x => decide (x.n = n))).map (fun x => (⟨x.l, x.p⟩ : KW)) := by
  unfold aget wsOf
  rw [List.find?_map]
  simp only [Option.map_map]
  rfl
theorem adel_wsOf (n : Int) (I : List WI) : adel n (wsOf I) = wsOf (I.filter (fun x => !(x.n == n))) := by
  unfold adel wsOf
  rw [List.filter_map]
  congr 1
  apply List.filter_congr
  intro x _
  by_cases h : x.n = n <;> simp [h]
theorem find_split {I : List WI} {n : Int} {x : WI} (h : I.find? (fun x => decide (x.n = n)) = some x) : ∃ J1 J2, I = J1 ++ x :: J2 ∧ x.n = n ∧ ∀ y ∈ J1, y.n ≠ n := by
  rw [List.find?_eq_some_iff_append] at h
  obtain ⟨h1, J1, J2, e, hn⟩ := h
  exact ⟨J1, J2, e, by simpa using h1, fun y hy => by simpa using hn y hy⟩
theorem aput_ws {n : Int} {ws : List (Int × KW)} (hk : ws.Pairwise (fun x y => x.1 ≠ y.1)) {J1 J2 : List WI} {x : WI} (hw : ws = wsOf (J1 ++ x :: J2)) (hx : x.n = n) (v : Value) (l : List Ch) (p : Bool) : aput n ⟨l, p⟩ ws = wsOf (J1 ++ ⟨x.n, x.wb, v, l, p⟩ :: J2) := by
  have hmem : (n, (⟨x.l, x.p⟩ : KW)) ∈ ws := by rw [hw]; simp [wsOf, ← hx]
  have hg : (aget n ws).isSome = true := by
    cases hq : aget n ws with
    | some _ => rfl
    | none => exact absurd rfl (aget_none.1 hq _ hmem)
  unfold aput
  rw [if_pos hg, hw]
  rw [hw] at hk
  unfold wsOf at hk ⊢
  rw [List.map_append, List.map_append, List.map_cons, List.map_append, List.map_cons, List.map_cons]
  rw [List.map_append, List.map_cons, List.pairwise_append] at hk
  obtain ⟨_, h2, h3⟩ := hk
  rw [List.pairwise_cons] at h2
  congr 1
  · rw [List.map_map]
    apply List.map_congr_left
    intro y hy
    have := h3 (y.n, ⟨y.l, y.p⟩) (List.mem_map.2 ⟨y, hy, rfl⟩) (x.n, ⟨x.l, x.p⟩) (by simp)
    simp only [Function.comp_apply]
    rw [if_neg (by rw [← hx]; exact this)]
  · congr 1
    · rw [if_pos hx]
    · rw [List.map_map]
      apply List.map_congr_left
      intro y hy
      have := h2.1 (y.n, ⟨y.l, y.p⟩) (List.mem_map.2 ⟨y, hy, rfl⟩)
      simp only [Function.comp_apply]
      rw [if_neg (by rw [← hx]; exact fun e => this e.symm)]
end Go.Proofs.YtdejbinmnoabeaaGreat.Q
