/- The image of before in its box, beside the resources' blocks. No walk. -/
import Derived.Test.YtdejbinmnoabeaaRzL
import Derived.Test.YtdejbinmnoabeaaRzG
import Derived.Test.YtdejbinmnoabeaaRzH
import Derived.Test.YtdejbinmnoabeaaRzI
import Derived.Test.YtdejbinmnoabeaaRzP
namespace Go.Proofs.Ytdejbinmnoabeaa
open Go.RowKit Go.Mine Go.Proofs.YtdejbinmnoabeaaW.PrintWords
set_option linter.unusedVariables false
set_option linter.unusedSimpArgs false
/-- Resources, and the image of before in a box beside them. -/
structure WE (B : Nat) (w0 : World) (b bx : Nat) (A1 : Option Addr) (c1 : Nat) (A2 : Option Addr) (c2 : Nat) (m : Img) (F : Nat → Prop) (s : RM) (w : World) : Prop where
  r : RAt F w b s
  fB : ∀ i, F i → B ≤ i
  x : ¬ F bx
  box : w.heap[bx]? = some (.cells #[.slice A1 m.P.length c1, .slice A2 m.L.length c2, .int .i64 m.nx] 49 (0, 0))
  p : PairAt w w.heap.size A1 m.P
  u : UAt w w.heap.size A2 m.L
  l1 : m.P.length ≤ c1
  l2 : m.L.length ≤ c2
  p0 : m.P ≠ [] → ∀ k off, A1 = some ⟨k, off, none⟩ → ¬ F k
  u0 : m.L ≠ [] → ∀ k off, A2 = some ⟨k, off, none⟩ → ¬ F k
  bel : Below B w0 w
  bB : B ≤ w.heap.size
theorem RowAt.fr {α : Type} {f : α → List Value} {sz B : Nat} {S : Nat → Prop} {w w' : World} {A : Option Addr} {l : List α} (h : Q.RowAt f sz w B A l) (hf : Fr S w w') (hB : B ≤ w'.heap.size) (hS : l ≠ [] → ∀ k off, A = some ⟨k, off, none⟩ → ¬ S k) : Q.RowAt f sz w' w'.heap.size A l := by
  intro i x hx
  have hne : l ≠ [] := by intro q; rw [q] at hx; simp at hx
  obtain ⟨b, off, e, hlt, hc⟩ := h i x hx
  exact ⟨b, off, e, by omega, fun j v hv => hf.cell (hc j v hv) (hS hne _ _ e)⟩
theorem WE.next {B : Nat} {w0 w w' : World} {b bx : Nat} {A1 A2 : Option Addr} {c1 c2 : Nat} {m : Img} {F F' S : Nat → Prop} {s s' : RM} (h : WE B w0 b bx A1 c1 A2 c2 m F s w) (hf : Fr S w w') (hS : ∀ i, S i → F i) (hr : RAt F' w' b s') (hg : K.Grew F F' w) : WE B w0 b bx A1 c1 A2 c2 m F' s' w' := by
  have hbx := Q.blk_lt h.box
  refine ⟨hr, fun i hi => (hg i hi).elim (h.fB i) (fun q => Nat.le_trans h.bB q), fun q => (hg bx q).elim h.x (fun q => by omega), hf.at_ h.box (fun q => h.x (hS _ q)), RowAt.fr h.p hf hf.size (fun hn k off e q => h.p0 hn k off e (hS _ q)), RowAt.fr h.u hf hf.size (fun hn k off e q => h.u0 hn k off e (hS _ q)), h.l1, h.l2, ?_, ?_, h.bel.trans (hf.below h.bB (fun k hk q => by have := h.fB k (hS k q); omega)), Nat.le_trans h.bB hf.size⟩
  · intro hn k off e q
    have := RowAt.block h.p hn e
    exact (hg k q).elim (h.p0 hn k off e) (fun q => by omega)
  · intro hn k off e q
    have := RowAt.block h.u hn e
    exact (hg k q).elim (h.u0 hn k off e) (fun q => by omega)
theorem WE.step {B : Nat} {w0 w w' : World} {b bx : Nat} {A1 A2 : Option Addr} {c1 c2 : Nat} {m : Img} {F : Nat → Prop} {s : RM} (hb : Below w.heap.size w w') (h : WE B w0 b bx A1 c1 A2 c2 m F s w) : WE B w0 b bx A1 c1 A2 c2 m F s w' :=
  h.next (Fr.of_below hb (Nat.le_refl _)) (fun _ q => q.elim) (RX.below h.r hb) (K.Grew.refl _ _)
theorem WE.img {B : Nat} {w0 w : World} {b bx : Nat} {A1 A2 : Option Addr} {c1 c2 : Nat} {m : Img} {F : Nat → Prop} {s : RM} (h : WE B w0 b bx A1 c1 A2 c2 m F s w) : ImgAt w w.heap.size (.agg #[.slice A1 m.P.length c1, .slice A2 m.L.length c2, .int .i64 m.nx]) m :=
  ⟨A1, c1, A2, c2, rfl, h.p, h.u, h.l1, h.l2⟩
theorem WE.cells {B : Nat} {w0 w : World} {b bx : Nat} {A1 A2 : Option Addr} {c1 c2 : Nat} {m : Img} {F : Nat → Prop} {s : RM} (h : WE B w0 b bx A1 c1 A2 c2 m F s w) : w.cell? ⟨bx, 0, none⟩ = some (.slice A1 m.P.length c1) ∧ w.cell? ⟨bx, 1, none⟩ = some (.slice A2 m.L.length c2) ∧ w.cell? ⟨bx, 2, none⟩ = some (.int .i64 m.nx) := by
  refine ⟨?_, ?_, ?_⟩
  · rw [cell_of_row w bx 0 _ _ _ h.box]; rfl
  · rw [cell_of_row w bx 1 _ _ _ h.box]; rfl
  · rw [cell_of_row w bx 2 _ _ _ h.box]; rfl
/-- What stands with a property of the world in each region. -/
def WS (X : World → Prop) (bx : Nat) (A1 : Option Addr) (c1 : Nat) (A2 : Option Addr) (c2 : Nat) (m : Img) (w : World) : Prop :=
  w.cell? ⟨bx, 0, none⟩ = some (.slice A1 m.P.length c1) ∧ w.cell? ⟨bx, 1, none⟩ = some (.slice A2 m.L.length c2) ∧ w.cell? ⟨bx, 2, none⟩ = some (.int .i64 m.nx) ∧ X w
theorem wE_step {B : Nat} {w0 w w' : World} {b bx : Nat} {A1 A2 : Option Addr} {c1 c2 : Nat} {m : Img} {F : Nat → Prop} {s : RM} (hb : Below w.heap.size w w') (h : w.cell? ⟨bx, 0, none⟩ = some (.slice A1 m.P.length c1) ∧ w.cell? ⟨bx, 1, none⟩ = some (.slice A2 m.L.length c2) ∧ w.cell? ⟨bx, 2, none⟩ = some (.int .i64 m.nx) ∧ WE B w0 b bx A1 c1 A2 c2 m F s w) : w'.cell? ⟨bx, 0, none⟩ = some (.slice A1 m.P.length c1) ∧ w'.cell? ⟨bx, 1, none⟩ = some (.slice A2 m.L.length c2) ∧ w'.cell? ⟨bx, 2, none⟩ = some (.int .i64 m.nx) ∧ WE B w0 b bx A1 c1 A2 c2 m F s w' := by
  have h2 := WE.step hb h.2.2.2
  obtain ⟨a, b, c⟩ := h2.cells
  exact ⟨a, b, c, h2⟩
/-- The same, the state untold. -/
def WX (B : Nat) (w0 : World) (b bx : Nat) (A1 : Option Addr) (c1 : Nat) (A2 : Option Addr) (c2 : Nat) (m : Img) (w : World) : Prop :=
  ∃ F s, WE B w0 b bx A1 c1 A2 c2 m F s w ∧ imgR s = m
theorem wX_of {B : Nat} {w0 w : World} {b bx : Nat} {A1 A2 : Option Addr} {c1 c2 : Nat} {m : Img} {F : Nat → Prop} {s : RM} (h : WE B w0 b bx A1 c1 A2 c2 m F s w) (hm : imgR s = m) : w.cell? ⟨bx, 0, none⟩ = some (.slice A1 m.P.length c1) ∧ w.cell? ⟨bx, 1, none⟩ = some (.slice A2 m.L.length c2) ∧ w.cell? ⟨bx, 2, none⟩ = some (.int .i64 m.nx) ∧ WX B w0 b bx A1 c1 A2 c2 m w := by
  obtain ⟨x, y, z⟩ := h.cells
  exact ⟨x, y, z, F, s, h, hm⟩
theorem wX_step {B : Nat} {w0 w w' : World} {b bx : Nat} {A1 A2 : Option Addr} {c1 c2 : Nat} {m : Img} (hb : Below w.heap.size w w') (h : w.cell? ⟨bx, 0, none⟩ = some (.slice A1 m.P.length c1) ∧ w.cell? ⟨bx, 1, none⟩ = some (.slice A2 m.L.length c2) ∧ w.cell? ⟨bx, 2, none⟩ = some (.int .i64 m.nx) ∧ WX B w0 b bx A1 c1 A2 c2 m w) : w'.cell? ⟨bx, 0, none⟩ = some (.slice A1 m.P.length c1) ∧ w'.cell? ⟨bx, 1, none⟩ = some (.slice A2 m.L.length c2) ∧ w'.cell? ⟨bx, 2, none⟩ = some (.int .i64 m.nx) ∧ WX B w0 b bx A1 c1 A2 c2 m w' := by
  obtain ⟨_, _, _, F, s, h2, hm⟩ := h
  exact wX_of (WE.step hb h2) hm
theorem WX.img {B : Nat} {w0 w : World} {b bx : Nat} {A1 A2 : Option Addr} {c1 c2 : Nat} {m : Img} (h : WX B w0 b bx A1 c1 A2 c2 m w) : ImgAt w w.heap.size (.agg #[.slice A1 m.P.length c1, .slice A2 m.L.length c2, .int .i64 m.nx]) m := by
  obtain ⟨F, s, h, _⟩ := h
  exact h.img
theorem ImgAt.up2 {w w' : World} {v : Value} {m : Img} (h : ImgAt w w.heap.size v m) (hb : Below w.heap.size w w') : ImgAt w' w'.heap.size v m := (h.below hb).up hb.size
theorem bel_tr {w w1 w2 : World} (h : Below w.heap.size w w1) (k : Below w1.heap.size w1 w2) : Below w.heap.size w w2 := h.trans (k.mono h.size)
theorem imgR_len (s : RM) (h : s.Ok) : (imgR s).P.length ≤ 16 ∧ (imgR s).L.length ≤ 16 := by
  refine ⟨pairsK_len _ _, ?_⟩
  have := h.q.sz
  show (s.q.its.map (·.val)).length ≤ 16
  rw [List.length_map]; omega
theorem we_new {B : Nat} {w0 w1 w2 : World} {b : Nat} {F : Nat → Prop} {s : RM} {A1 A2 : Option Addr} {c1 c2 : Nat} {m : Img} (hr : RAt F w1 b s) (hF : ∀ i, F i → B ≤ i) (h2 : Below w1.heap.size w1 w2) (hb : Below B w0 w1) (hB : B ≤ w1.heap.size)
    (hm : PairAt w2 w2.heap.size A1 m.P ∧ UAt w2 w2.heap.size A2 m.L ∧ m.P.length ≤ c1 ∧ m.L.length ≤ c2 ∧ (∀ k off, A1 = some ⟨k, off, none⟩ → w1.heap.size ≤ k) ∧ (∀ k off, A2 = some ⟨k, off, none⟩ → w1.heap.size ≤ k)) :
    WE B w0 b w2.heap.size A1 c1 A2 c2 m F s (w2.alloc (.cells #[.slice A1 m.P.length c1, .slice A2 m.L.length c2, .int .i64 m.nx] 49)) := by
  have ha : Below w2.heap.size w2 (w2.alloc (.cells #[.slice A1 m.P.length c1, .slice A2 m.L.length c2, .int .i64 m.nx] 49)) := (Below.refl _ _).alloc (Nat.le_refl _) _
  have hfb := RX.fb hr
  have hs2 := h2.size
  obtain ⟨hp, hu, l1, l2, k1, k2⟩ := hm
  refine ⟨RX.below (RX.below hr h2) ha, hF, fun q => by have := hfb _ q; omega, (MapKept.heap_alloc w2 _).1, Q.RowAt.up (Q.RowAt.below hp ha) ha.size, Q.RowAt.up (Q.RowAt.below hu ha) ha.size, l1, l2, fun _ k off e q => by have := hfb _ q; have := k1 k off e; omega, fun _ k off e q => by have := hfb _ q; have := k2 k off e; omega, hb.trans ((bel_tr h2 ha).mono hB), by have := ha.size; omega⟩
end Go.Proofs.Ytdejbinmnoabeaa
