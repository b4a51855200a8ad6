/- Slices and messages that came in. -/
import Derived.WalkKit
import Derived.ProofKit
import Derived.SizedLaws
import Derived.Deep.Slices
import Derived.Lib.SmallJoins
import Derived.Deep.Strs
import Derived.Test.YtfndcfffbpbbhaaRows
import Derived.Test.YtfndcfffbpbbhaaQPf
import Derived.OpenShut
namespace Go.Mine
open Go.RowKit Go.Deep
set_option linter.unusedVariables false
set_option linter.unusedSimpArgs false

/-- The slice at A reads as ys: element i lies in 'size' cells, of which E tells. All of it below block B. -/
def RowR {α : Type} (E : World → α → List Value → Prop) (w : World) (B size : Nat) (A : Option Addr) (ys : List α) : Prop :=
  ∀ i y, ys[i]? = some y → ∃ b off cs, A = some ⟨b, off, none⟩ ∧ b < B ∧ E w y cs ∧ cs.length = size ∧ ∀ j v, cs[j]? = some v → w.cell? ⟨b, off + i * size + j, none⟩ = some v

theorem RowR.below {α : Type} {E : World → α → List Value → Prop} {w w' : World} {B size : Nat} {A : Option Addr} {ys : List α} (h : RowR E w B size A ys) (hb : Below B w w') (hE : ∀ y cs, E w y cs → E w' y cs) : RowR E w' B size A ys := by
  intro i y hy
  obtain ⟨b, off, cs, e, hlt, he, hl, hc⟩ := h i y hy
  exact ⟨b, off, cs, e, hlt, hE y cs he, hl, fun j v hv => (hb.cell (p := ⟨b, off + i * size + j, none⟩) hlt).trans (hc j v hv)⟩

theorem cell_spot {w : World} {a : Addr} {v : Value} (h : w.cell? a = some v) : a.spot = none := by
  unfold World.cell? at h
  split at h
  · cases hs : a.spot with
    | none => rfl
    | some x => simp [hs] at h
  · cases h

theorem list_of_fn {α : Type} {n : Nat} {p : Nat → α → Prop} : (∀ i, i < n → ∃ y, p i y) → ∃ ys : List α, ys.length = n ∧ ∀ i y, ys[i]? = some y → p i y := by
  induction n with
  | zero => intro _; exact ⟨[], rfl, by simp⟩
  | succ n ih =>
    intro h
    obtain ⟨ys, hl, hp⟩ := ih (fun i hi => h i (by omega))
    obtain ⟨y, hy⟩ := h n (by omega)
    refine ⟨ys ++ [y], by simp [hl], fun i z hz => ?_⟩
    by_cases hi : i < n
    · rw [List.getElem?_append_left (by omega)] at hz
      exact hp i z hz
    · rw [List.getElem?_append_right (by omega), hl] at hz
      have : i - n = 0 := by
        cases hk : i - n with
        | zero => rfl
        | succ m => rw [hk] at hz; simp at hz
      rw [this] at hz
      simp at hz
      subst hz
      have : i = n := by omega
      subst this
      exact hy

section
variable {H : Type} {enc : TypeId × Value → H} {P : Program} {w : World} {base : Nat} {spare : Nat → Bool} {held : Bool}

theorem open_row {α : Type} (E : World → α → List Value → Prop) {t e : TypeId} {size fuel : Nat} {A : Option Addr} {len cap : Nat} {x : DataW H × List MemPlace} (ht : P.underlying t = some (.slice e)) (hc : P.cellsOf e = size) (hs : 0 < size)
    (hel : ∀ n cs z, DataW.trod enc P w base spare held n e cs = some z → ∃ y, E w y cs)
    (h : DataW.trod enc P w base spare held fuel t [.slice A len cap] = some x) :
    ∃ ys : List α, ys.length = len ∧ RowR E w w.heap.size size A ys ∧ len ≤ cap := by
  rcases open_slice ht h with ⟨h0, _⟩ | ⟨a, len', cap', m, n, D, Pl, hcs, hb, hl, hm, hmm, _, hx⟩
  · simp only [List.cons.injEq, Value.slice.injEq, and_true] at h0
    obtain ⟨rfl, rfl, rfl⟩ := h0
    exact ⟨[], rfl, fun i y hy => by simp at hy, Nat.le_refl _⟩
  · simp only [List.cons.injEq, Value.slice.injEq, and_true] at hcs
    obtain ⟨rfl, rfl, rfl⟩ := hcs
    have hlm : len ≤ m := by rw [hmm]; split <;> omega
    obtain ⟨ys, hyl, hyp⟩ := list_of_fn (α := α) (n := len) (p := fun i y => ∃ cs, E w y cs ∧ cs.length = size ∧ ∀ j, j < size → w.cell? ((a.add (i * size)).add j) = cs[j]?) (by
      intro i hi
      obtain ⟨cs', h1, h2⟩ := hx i (by omega)
      rw [hc] at h1
      obtain ⟨_, hln, hce⟩ := World.cells?_some h1
      obtain ⟨y, hy⟩ := hel _ _ _ h2
      exact ⟨y, cs', hy, hln, hce⟩)
    refine ⟨ys, hyl, fun i y hy => ?_, hl⟩
    obtain ⟨cs, he, hln, hce⟩ := hyp i y hy
    have h0 : w.cell? ((a.add (i * size)).add 0) = some cs[0] := by rw [hce 0 hs, List.getElem?_eq_getElem (by omega)]
    obtain ⟨b, off, sp⟩ := a
    have hadd : ∀ k, (⟨b, off, sp⟩ : Addr).add k = ⟨b, off + k, if k = 0 then sp else none⟩ := by
      intro k
      unfold Addr.add
      by_cases hk : k = 0
      · subst hk; simp
      · simp [hk]
    have hsp : sp = none := by
      by_cases hi0 : i = 0
      · subst hi0
        have := cell_spot h0
        simpa [hadd, Addr.add] using this
      · -- the first element's cell tells it
        obtain ⟨cs0, h1, _⟩ := hx 0 (by have := (List.getElem?_eq_some_iff.1 hy).1; omega)
        rw [hc] at h1
        obtain ⟨_, hln0, hce0⟩ := World.cells?_some h1
        have h00 := hce0 0 hs
        rw [List.getElem?_eq_getElem (by omega)] at h00
        have := cell_spot h00
        simpa [hadd, Addr.add] using this
    subst hsp
    have hblk : b < w.heap.size := by
      have := World.block_lt_of_cell? _ _ h0
      simp only [hadd] at this
      exact this
    refine ⟨b, off, cs, rfl, hblk, he, hln, fun j v hv => ?_⟩
    have hj : j < size := by have := (List.getElem?_eq_some_iff.1 hv).1; omega
    rw [← hv, ← hce j hj]
    congr 1
    simp only [hadd]
    unfold Addr.add
    by_cases hj0 : j = 0
    · subst hj0; simp
    · simp [hj0]

/-- .. and no longer than its weight allows. -/
theorem sized_row {ts : List TypeId} {ds : List (DataW H)} {j : Nat} {t e : TypeId} {A : Option Addr} {len cap : Nat} {d : DataW H} {ps : List MemPlace} (hsz : (DataW.weightsEach P ts ds).all (· ≤ reachBytes) = true)
    (htj : ts[j]? = some t) (hdj : ds[j]? = some d) (ht : P.underlying t = some (.slice e)) (h : DataW.Trod enc P w base spare held t (.slice A len cap) d ps) {B : Nat} (hB : P.bytesOf e = B) : len * B ≤ 140737488351232 := by
  obtain ⟨fuel, hf⟩ := h
  rcases open_slice ht hf with ⟨h0, _⟩ | ⟨a, len', cap', m, n, D, Pl, hcs, hb, hl, hm, hmm, hx, _⟩
  · simp only [Value.cells, List.cons.injEq, Value.slice.injEq, and_true] at h0
    obtain ⟨_, rfl, _⟩ := h0
    simp
  · simp only [Value.cells, List.cons.injEq, Value.slice.injEq, and_true] at hcs
    obtain ⟨rfl, rfl, rfl⟩ := hcs
    obtain ⟨rfl, _⟩ := Prod.mk.inj hx
    have z := sized_slice hsz htj hdj ht
    rw [hB] at z
    refine Nat.le_trans (Nat.mul_le_mul_right _ ?_) z
    simp
end
end Go.Mine

namespace Go.Proofs.Ytfndcfffbpbbhaa.Q
open Go.RowKit Go.ChangeShapes Go.WideShapes Go.Deep
set_option linter.unusedVariables false
set_option linter.unusedSimpArgs false
theorem u32_wf {x : Int} (h : (Lit.int .u32 x).wf = true) : U32b x := by
  simp only [Lit.wf, Bool.and_eq_true, decide_eq_true_eq] at h
  simp [IntKind.min, IntKind.max, IntKind.bits, IntKind.signed] at h
  unfold U32b; omega
section
variable {H : Type} {enc : TypeId × Value → H} {W : World} {base : Nat} {spare : Nat → Bool} {held : Bool}
theorem msg_open {r : Reach} {b0 : Nat} {v : Value} {d : DataW H} {p : List MemPlace} (hv : Value.okWide Try.prog W r b0 26 v) (h : DataW.Trod enc Try.prog W base spare held 26 v d p) :
    ∃ (a b c d' : Int) (m : Bool) (x y : Int), v = .agg #[.int .i64 a, .int .i64 b, .int .u32 c, .int .u32 d', .bool m, .int .u32 x, .int .u32 y] ∧ U32b c ∧ U32b d' ∧ U32b x ∧ U32b y := by
  obtain ⟨cs, rfl, hsz⟩ := okWide_struct Try.underlying26 hv
  have hc : Try.prog.cellsOf 26 = 7 := by kernel_rfl
  have c3 : Try.prog.cellsOf 3 = 1 := by kernel_rfl
  have c24 : Try.prog.cellsOf 24 = 3 := by kernel_rfl
  have c4 : Try.prog.cellsOf 4 = 1 := by kernel_rfl
  have c22 : Try.prog.cellsOf 22 = 1 := by kernel_rfl
  obtain ⟨fuel, hf⟩ := h
  obtain ⟨xs, n, _, _, hl, hlen, hx⟩ := DataW.trod_struct Try.underlying26 hf
  rw [hc] at hsz
  obtain ⟨l, rfl⟩ : ∃ l : List Value, cs = l.toArray := ⟨cs.toList, by simp⟩
  obtain ⟨v0, v1, v2, v3, v4, v5, v6, rfl⟩ : ∃ a b c d e f g, l = [a, b, c, d, e, f, g] := by
    have : l.length = 7 := by simpa using hsz
    match l, this with
    | [a, b, c, d, e, f, g], _ => exact ⟨a, b, c, d, e, f, g, rfl⟩
  obtain ⟨y0, y1, y2, y3, y4, rfl⟩ : ∃ a b c d e, xs = [a, b, c, d, e] := by
    match xs, hlen with
    | [a, b, c, d, e], _ => exact ⟨a, b, c, d, e, rfl⟩
  have h0 : DataW.trod enc Try.prog W base spare held n 3 (([v0, v1, v2, v3, v4, v5, v6].drop 0).take (Try.prog.cellsOf 3)) = some y0 := hx 0 _ rfl
  have h1 : DataW.trod enc Try.prog W base spare held n 24 (([v0, v1, v2, v3, v4, v5, v6].drop 1).take (Try.prog.cellsOf 24)) = some y1 := hx 1 _ rfl
  have h2 : DataW.trod enc Try.prog W base spare held n 4 (([v0, v1, v2, v3, v4, v5, v6].drop 4).take (Try.prog.cellsOf 4)) = some y2 := hx 2 _ rfl
  have h3 : DataW.trod enc Try.prog W base spare held n 22 (([v0, v1, v2, v3, v4, v5, v6].drop 5).take (Try.prog.cellsOf 22)) = some y3 := hx 3 _ rfl
  have h4 : DataW.trod enc Try.prog W base spare held n 22 (([v0, v1, v2, v3, v4, v5, v6].drop 6).take (Try.prog.cellsOf 22)) = some y4 := hx 4 _ rfl
  simp only [Value.cells, c3, c24, c4, c22, List.drop_zero, List.take_succ_cons, List.take_zero, List.drop_succ_cons] at h0 h1 h2 h3 h4
  obtain ⟨x0, e0, _, _⟩ := DataW.trod_int Try.underlying3 h0
  obtain ⟨x4, e4, _⟩ := DataW.trod_bool Try.underlying4 h2
  obtain ⟨x5, e5, _, w5⟩ := DataW.trod_int Try.underlying22 h3
  obtain ⟨x6, e6, _, w6⟩ := DataW.trod_int Try.underlying22 h4
  obtain ⟨z0, z1, z2, n', _, _, g0, g1, g2⟩ := trod_struct3 Try.underlying24 h1
  replace g0 : DataW.trod enc Try.prog W base spare held n' 3 (([v1, v2, v3].drop 0).take (Try.prog.cellsOf 3)) = some z0 := g0
  replace g1 : DataW.trod enc Try.prog W base spare held n' 22 (([v1, v2, v3].drop 1).take (Try.prog.cellsOf 22)) = some z1 := g1
  replace g2 : DataW.trod enc Try.prog W base spare held n' 22 (([v1, v2, v3].drop 2).take (Try.prog.cellsOf 22)) = some z2 := g2
  simp only [c3, c22, List.drop_zero, List.take_succ_cons, List.take_zero, List.drop_succ_cons] at g0 g1 g2
  obtain ⟨x1, e1, _, _⟩ := DataW.trod_int Try.underlying3 g0
  obtain ⟨x2, e2, _, w2⟩ := DataW.trod_int Try.underlying22 g1
  obtain ⟨x3, e3, _, w3⟩ := DataW.trod_int Try.underlying22 g2
  simp at e0
  simp at e1
  simp at e2
  simp at e3
  simp at e4
  simp at e5
  simp at e6
  subst e0 e1 e2 e3 e4 e5 e6
  exact ⟨x0, x1, x2, x3, x4, x5, x6, rfl, u32_wf w2, u32_wf w3, u32_wf w5, u32_wf w6⟩
end
end Go.Proofs.Ytfndcfffbpbbhaa.Q
