/- The arguments of the store's laws, opened: lists of calls, each with a list of changes. -/
import Derived.Test.YtdejbinmnoabeaaRzL
import Derived.Test.YtdejbinmnoabeaaArgs
import Derived.OpenShut
import Derived.ShutString
import Derived.ChangeOld
import Derived.ChangeArms
namespace Go.Proofs.Ytdejbinmnoabeaa
open Go.RowKit Go.Mine Go.Deep
set_option linter.unusedVariables false
set_option linter.unusedSimpArgs false
section
variable {H : Type} {enc : TypeId × Value → H} {w : World} {base : Nat} {spare : Nat → Bool} {held : Bool}
set_option maxRecDepth 100000 in
theorem ch_open (n : Nat) (cs : List Value) (z : DataW H × List MemPlace) (h : DataW.trod enc Try.prog w base spare held n 62 cs = some z) : ∃ y : Ch, cs = Q.encCh y := by
  obtain ⟨xs, m, _, _, hl, hlen, hx⟩ := DataW.trod_struct Try.underlying62 h
  have hc : Try.prog.cellsOf 62 = 3 := by kernel_rfl
  have c3 : Try.prog.cellsOf 3 = 1 := by kernel_rfl
  have c26 : Try.prog.cellsOf 32 = 1 := by kernel_rfl
  rw [hc] at hl
  obtain ⟨v0, v1, v2, rfl⟩ : ∃ a b c, cs = [a, b, c] := by
    match cs, hl with
    | [a, b, c], _ => exact ⟨a, b, c, rfl⟩
  obtain ⟨y0, y1, y2, rfl⟩ : ∃ a b c, xs = [a, b, c] := by
    match xs, hlen with
    | [a, b, c], _ => exact ⟨a, b, c, rfl⟩
  have h0 : DataW.trod enc Try.prog w base spare held m 3 (([v0, v1, v2].drop 0).take (Try.prog.cellsOf 3)) = some y0 := hx 0 _ rfl
  have h1 : DataW.trod enc Try.prog w base spare held m 3 (([v0, v1, v2].drop 1).take (Try.prog.cellsOf 3)) = some y1 := hx 1 _ rfl
  have h2 : DataW.trod enc Try.prog w base spare held m 32 (([v0, v1, v2].drop 2).take (Try.prog.cellsOf 32)) = some y2 := hx 2 _ rfl
  simp only [c3, c26, List.drop_zero, List.take_succ_cons, List.take_zero, List.drop_succ_cons] at h0 h1 h2
  obtain ⟨x0, e0, _, _⟩ := DataW.trod_int Try.underlying3 h0
  obtain ⟨x1, e1, _, _⟩ := DataW.trod_int Try.underlying3 h1
  obtain ⟨x2, e2, _, _⟩ := DataW.trod_int Try.underlying32 h2
  simp only [List.cons.injEq, and_true] at e0 e1 e2
  subst e0 e1 e2
  exact ⟨⟨x0, x1, x2⟩, rfl⟩
theorem chAt_of {B : Nat} {A : Option Addr} {l : List Ch} (h : RowR (fun _ y cs => cs = Q.encCh y) w B 3 A l) : ChAt w B A l := by
  intro i x hx
  obtain ⟨b, off, cs, e, hlt, rfl, _, hc⟩ := h i x hx
  exact ⟨b, off, e, hlt, hc⟩
set_option maxRecDepth 100000 in
theorem op_open (n : Nat) (cs : List Value) (z : DataW H × List MemPlace) (h : DataW.trod enc Try.prog w base spare held n 34 cs = some z) : ∃ y : ROp, cs = encOp y ∧ ChAt w w.heap.size y.la y.l ∧ y.l.length ≤ y.lc := by
  obtain ⟨xs, m, _, _, hl, hlen, hx⟩ := DataW.trod_struct Try.underlying34 h
  have hc : Try.prog.cellsOf 34 = 5 := by kernel_rfl
  have c3 : Try.prog.cellsOf 3 = 1 := by kernel_rfl
  have c26 : Try.prog.cellsOf 32 = 1 := by kernel_rfl
  have c32 : Try.prog.cellsOf 22 = 1 := by kernel_rfl
  rw [hc] at hl
  obtain ⟨v0, v1, v2, v3, v4, rfl⟩ : ∃ a b c d e, cs = [a, b, c, d, e] := by
    match cs, hl with
    | [a, b, c, d, e], _ => exact ⟨a, b, c, d, e, rfl⟩
  obtain ⟨y0, y1, y2, y3, y4, rfl⟩ : ∃ a b c d e, xs = [a, b, c, d, e] := by
    match xs, hlen with
    | [a, b, c, d, e], _ => exact ⟨a, b, c, d, e, rfl⟩
  have h0 : DataW.trod enc Try.prog w base spare held m 3 (([v0, v1, v2, v3, v4].drop 0).take (Try.prog.cellsOf 3)) = some y0 := hx 0 _ rfl
  have h1 : DataW.trod enc Try.prog w base spare held m 3 (([v0, v1, v2, v3, v4].drop 1).take (Try.prog.cellsOf 3)) = some y1 := hx 1 _ rfl
  have h2 : DataW.trod enc Try.prog w base spare held m 3 (([v0, v1, v2, v3, v4].drop 2).take (Try.prog.cellsOf 3)) = some y2 := hx 2 _ rfl
  have h3 : DataW.trod enc Try.prog w base spare held m 32 (([v0, v1, v2, v3, v4].drop 3).take (Try.prog.cellsOf 32)) = some y3 := hx 3 _ rfl
  have h4 : DataW.trod enc Try.prog w base spare held m 22 (([v0, v1, v2, v3, v4].drop 4).take (Try.prog.cellsOf 22)) = some y4 := hx 4 _ rfl
  simp only [c3, c26, c32, List.drop_zero, List.take_succ_cons, List.take_zero, List.drop_succ_cons] at h0 h1 h2 h3 h4
  obtain ⟨x0, e0, _, _⟩ := DataW.trod_int Try.underlying3 h0
  obtain ⟨x1, e1, _, _⟩ := DataW.trod_int Try.underlying3 h1
  obtain ⟨x2, e2, _, _⟩ := DataW.trod_int Try.underlying3 h2
  obtain ⟨x3, e3, _, _⟩ := DataW.trod_int Try.underlying32 h3
  simp only [List.cons.injEq, and_true] at e0 e1 e2 e3
  subst e0 e1 e2 e3
  obtain ⟨A, len, cap, rfl⟩ : ∃ A len cap, v4 = .slice A len cap := by
    rcases open_slice Try.underlying22 h4 with ⟨q, _⟩ | ⟨a, len', cap', m', n', D, Pl, hcs, _⟩
    · simp only [List.cons.injEq, and_true] at q
      exact ⟨_, _, _, q⟩
    · simp only [List.cons.injEq, and_true] at hcs
      exact ⟨_, _, _, hcs⟩
  obtain ⟨ys, hyl, hrow, hcap⟩ := open_row (size := 3) (fun _ (y : Ch) cs => cs = Q.encCh y) Try.underlying22 (by kernel_rfl) (by decide) (fun n cs z hz => ch_open n cs z hz) h4
  subst hyl
  exact ⟨⟨x0, x1, x2, x3, A, ys, cap⟩, rfl, chAt_of hrow, hcap⟩
end
theorem opsAt_of {w : World} {A : Option Addr} {l : List ROp} (h : RowR (fun w y cs => cs = encOp y ∧ ChAt w w.heap.size y.la y.l ∧ y.l.length ≤ y.lc) w w.heap.size 5 A l) : OpsAt w w.heap.size A l := by
  intro i x hx
  obtain ⟨b, off, cs, e, hlt, ⟨rfl, h1, h2⟩, _, hc⟩ := h i x hx
  exact ⟨b, off, e, hlt, hc, h1, h2⟩
section
open Go.Deep Go.WideShapes
variable {H : Type} {enc : TypeId × Value → H} {W : World} {base : Nat} {spare : Nat → Bool} {held : Bool}
set_option maxRecDepth 100000 in
theorem oparg_open {r : Reach} {b0 : Nat} {v : Value} {d : DataW H} {p : List MemPlace} (hv : Value.okWide Try.prog W r b0 34 v) (h : DataW.Trod enc Try.prog W base spare held 34 v d p) :
    ∃ o : ROp, v = .agg #[.int .i64 o.kind, .int .i64 o.work, .int .i64 o.key, .int .u64 o.val, .slice o.la o.l.length o.lc] ∧ ChAt W W.heap.size o.la o.l ∧ o.l.length ≤ o.lc := by
  obtain ⟨cs, rfl, hsz⟩ := okWide_struct Try.underlying34 hv
  obtain ⟨fuel, hf⟩ := h
  obtain ⟨y, hy, h1, h2⟩ := op_open _ _ _ hf
  have : cs = (encOp y).toArray := by
    rw [← hy]
    simp [Value.cells]
  subst this
  exact ⟨y, rfl, h1, h2⟩
end

end Go.Proofs.Ytdejbinmnoabeaa
