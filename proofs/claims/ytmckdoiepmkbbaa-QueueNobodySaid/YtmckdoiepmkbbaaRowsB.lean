/- The arguments of the queue's laws, opened: lists of calls, each with a list of changes and a list of values. -/
import Derived.Test.YtmckdoiepmkbbaaQuX
import Derived.Test.YtmckdoiepmkbbaaRowsA
import Derived.ChangeArms
namespace Go.Proofs.Ytmckdoiepmkbbaa
open Go.RowKit Go.Mine Go.Deep
set_option linter.unusedVariables false
set_option linter.unusedSimpArgs false
section
variable {H : Type} {enc : TypeId × Value → H} {w : World} {base : Nat} {spare : Nat → Bool} {held : Bool}
set_option maxRecDepth 100000 in
theorem ch_open (n : Nat) (cs : List Value) (z : DataW H × List MemPlace) (h : DataW.trod enc Try.prog w base spare held n 43 cs = some z) : ∃ y : Ch, cs = encCh y := by
  obtain ⟨xs, m, _, _, hl, hlen, hx⟩ := DataW.trod_struct Try.underlying43 h
  have hc : Try.prog.cellsOf 43 = 3 := by kernel_rfl
  have c3 : Try.prog.cellsOf 3 = 1 := by kernel_rfl
  have c28 : Try.prog.cellsOf 28 = 1 := by kernel_rfl
  rw [hc] at hl
  obtain ⟨v0, v1, v2, rfl⟩ : ∃ a b c, cs = [a, b, c] := by
    match cs, hl with
    | [a, b, c], _ => exact ⟨a, b, c, rfl⟩
  obtain ⟨y0, y1, y2, rfl⟩ : ∃ a b c, xs = [a, b, c] := by
    match xs, hlen with
    | [a, b, c], _ => exact ⟨a, b, c, rfl⟩
  have h0 : DataW.trod enc Try.prog w base spare held m 3 (([v0, v1, v2].drop 0).take (Try.prog.cellsOf 3)) = some y0 := hx 0 _ rfl
  have h1 : DataW.trod enc Try.prog w base spare held m 3 (([v0, v1, v2].drop 1).take (Try.prog.cellsOf 3)) = some y1 := hx 1 _ rfl
  have h2 : DataW.trod enc Try.prog w base spare held m 28 (([v0, v1, v2].drop 2).take (Try.prog.cellsOf 28)) = some y2 := hx 2 _ rfl
  simp only [c3, c28, List.drop_zero, List.take_succ_cons, List.take_zero, List.drop_succ_cons] at h0 h1 h2
  obtain ⟨x0, e0, _, _⟩ := DataW.trod_int Try.underlying3 h0
  obtain ⟨x1, e1, _, _⟩ := DataW.trod_int Try.underlying3 h1
  obtain ⟨x2, e2, _, _⟩ := DataW.trod_int Try.underlying28 h2
  simp only [List.cons.injEq, and_true] at e0 e1 e2
  subst e0 e1 e2
  exact ⟨⟨x0, x1, x2⟩, rfl⟩
theorem chAt_of {B : Nat} {A : Option Addr} {l : List Ch} (h : RowR (fun _ y cs => cs = encCh y) w B 3 A l) : ChAt w B A l := by
  intro i x hx
  obtain ⟨b, off, cs, e, hlt, rfl, _, hc⟩ := h i x hx
  exact ⟨b, off, e, hlt, hc⟩
set_option maxRecDepth 100000 in
theorem op_open (n : Nat) (cs : List Value) (z : DataW H × List MemPlace) (h : DataW.trod enc Try.prog w base spare held n 46 cs = some z) : ∃ y : QOp, cs = encOp y ∧ OpIn w w.heap.size y := by
  obtain ⟨xs, m, _, _, hl, hlen, hx⟩ := DataW.trod_struct Try.underlying46 h
  have hc : Try.prog.cellsOf 46 = 6 := by kernel_rfl
  have c3 : Try.prog.cellsOf 3 = 1 := by kernel_rfl
  have c28 : Try.prog.cellsOf 28 = 1 := by kernel_rfl
  have c38 : Try.prog.cellsOf 38 = 1 := by kernel_rfl
  have c22 : Try.prog.cellsOf 22 = 1 := by kernel_rfl
  rw [hc] at hl
  obtain ⟨v0, v1, v2, v3, v4, v5, rfl⟩ : ∃ a b c d e f, cs = [a, b, c, d, e, f] := by
    match cs, hl with
    | [a, b, c, d, e, f], _ => exact ⟨a, b, c, d, e, f, rfl⟩
  obtain ⟨y0, y1, y2, y3, y4, y5, rfl⟩ : ∃ a b c d e f, xs = [a, b, c, d, e, f] := by
    match xs, hlen with
    | [a, b, c, d, e, f], _ => exact ⟨a, b, c, d, e, f, rfl⟩
  have h0 : DataW.trod enc Try.prog w base spare held m 3 (([v0, v1, v2, v3, v4, v5].drop 0).take (Try.prog.cellsOf 3)) = some y0 := hx 0 _ rfl
  have h1 : DataW.trod enc Try.prog w base spare held m 3 (([v0, v1, v2, v3, v4, v5].drop 1).take (Try.prog.cellsOf 3)) = some y1 := hx 1 _ rfl
  have h2 : DataW.trod enc Try.prog w base spare held m 3 (([v0, v1, v2, v3, v4, v5].drop 2).take (Try.prog.cellsOf 3)) = some y2 := hx 2 _ rfl
  have h3 : DataW.trod enc Try.prog w base spare held m 28 (([v0, v1, v2, v3, v4, v5].drop 3).take (Try.prog.cellsOf 28)) = some y3 := hx 3 _ rfl
  have h4 : DataW.trod enc Try.prog w base spare held m 38 (([v0, v1, v2, v3, v4, v5].drop 4).take (Try.prog.cellsOf 38)) = some y4 := hx 4 _ rfl
  have h5 : DataW.trod enc Try.prog w base spare held m 22 (([v0, v1, v2, v3, v4, v5].drop 5).take (Try.prog.cellsOf 22)) = some y5 := hx 5 _ rfl
  simp only [c3, c28, c38, c22, List.drop_zero, List.take_succ_cons, List.take_zero, List.drop_succ_cons] at h0 h1 h2 h3 h4 h5
  obtain ⟨x0, e0, _, _⟩ := DataW.trod_int Try.underlying3 h0
  obtain ⟨x1, e1, _, _⟩ := DataW.trod_int Try.underlying3 h1
  obtain ⟨x2, e2, _, _⟩ := DataW.trod_int Try.underlying3 h2
  obtain ⟨x3, e3, _, _⟩ := DataW.trod_int Try.underlying28 h3
  simp only [List.cons.injEq, and_true] at e0 e1 e2 e3
  subst e0 e1 e2 e3
  obtain ⟨A, len, cap, rfl⟩ : ∃ A len cap, v4 = .slice A len cap := by
    rcases open_slice Try.underlying38 h4 with ⟨q, _⟩ | ⟨a, len', cap', m', n', D, Pl, hcs, _⟩
    · simp only [List.cons.injEq, and_true] at q
      exact ⟨_, _, _, q⟩
    · simp only [List.cons.injEq, and_true] at hcs
      exact ⟨_, _, _, hcs⟩
  obtain ⟨A2, len2, cap2, rfl⟩ : ∃ A len cap, v5 = .slice A len cap := by
    rcases open_slice Try.underlying22 h5 with ⟨q, _⟩ | ⟨a, len', cap', m', n', D, Pl, hcs, _⟩
    · simp only [List.cons.injEq, and_true] at q
      exact ⟨_, _, _, q⟩
    · simp only [List.cons.injEq, and_true] at hcs
      exact ⟨_, _, _, hcs⟩
  obtain ⟨ys, hyl, hrow, hcap⟩ := open_row (size := 3) (fun _ (y : Ch) cs => cs = encCh y) Try.underlying38 (by kernel_rfl) (by decide) (fun n cs z hz => ch_open n cs z hz) h4
  subst hyl
  obtain ⟨us, hul, hrow2, hcap2⟩ := open_row (size := 1) (fun _ (y : Int) cs => cs = [Value.int .u64 y]) Try.underlying22 (by kernel_rfl) (by decide) (fun n cs z hz => u64_open n cs z hz) h5
  subst hul
  exact ⟨⟨x0, x1, x2, x3, A, ys, cap, A2, us, cap2⟩, rfl, chAt_of hrow, hcap, usAt_of hrow2, hcap2⟩
end
theorem opsAt_of {w : World} {A : Option Addr} {l : List QOp} (h : RowR (fun w y cs => cs = encOp y ∧ OpIn w w.heap.size y) w w.heap.size 6 A l) : OpsAt w w.heap.size A l := by
  intro i x hx
  obtain ⟨b, off, cs, e, hlt, ⟨rfl, h1⟩, _, hc⟩ := h i x hx
  exact ⟨b, off, e, hlt, hc, h1⟩
end Go.Proofs.Ytmckdoiepmkbbaa
