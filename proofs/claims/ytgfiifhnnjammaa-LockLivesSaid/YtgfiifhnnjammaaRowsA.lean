/- The arguments of the lock laws, opened: lists of calls and of ints. -/
import Derived.Test.YtgfiifhnnjammaaLock7
import Derived.Test.YtgfiifhnnjammaaArgs
import Derived.OpenShut
import Derived.ShutString
import Derived.ChangeOld
namespace Go.Proofs.Ytgfiifhnnjammaa
open Go.RowKit Go.Mine
set_option linter.unusedVariables false
set_option linter.unusedSimpArgs false
section
variable {H : Type} {enc : TypeId × Value → H} {w : World} {base : Nat} {spare : Nat → Bool} {held : Bool}
theorem op_open (n : Nat) (cs : List Value) (z : DataW H × List MemPlace) (h : DataW.trod enc Try.prog w base spare held n 40 cs = some z) : ∃ y : OpT, cs = encOp y := by
  obtain ⟨y0, y1, y2, y3, m, hx, hl, h0, h1, h2, h3⟩ := Joins.trod_struct4 Try.underlying40 h
  have hc : Try.prog.cellsOf 40 = 4 := by kernel_rfl
  have c3 : Try.prog.cellsOf 3 = 1 := by kernel_rfl
  have c4 : Try.prog.cellsOf 4 = 1 := by kernel_rfl
  rw [hc] at hl
  obtain ⟨v0, v1, v2, v3, rfl⟩ : ∃ a b c d, cs = [a, b, c, d] := by
    match cs, hl with
    | [a, b, c, d], _ => exact ⟨a, b, c, d, rfl⟩
  simp only [c3, c4, List.drop_zero, List.take_succ_cons, List.take_zero, List.drop_succ_cons] at h0 h1 h2 h3
  obtain ⟨x0, e0, _, _⟩ := DataW.trod_int Try.underlying3 h0
  obtain ⟨x1, e1, _, _⟩ := DataW.trod_int Try.underlying3 h1
  obtain ⟨x2, e2, _, _⟩ := DataW.trod_int Try.underlying3 h2
  obtain ⟨x3, e3, _⟩ := DataW.trod_bool Try.underlying4 h3
  simp only [List.cons.injEq, and_true] at e0 e1 e2 e3
  subst e0 e1 e2 e3
  exact ⟨⟨x0, x1, x2, x3⟩, rfl⟩
theorem int_open (n : Nat) (cs : List Value) (z : DataW H × List MemPlace) (h : DataW.trod enc Try.prog w base spare held n 3 cs = some z) : ∃ y : Int, cs = [.int .i64 y] := by
  obtain ⟨x0, e0, _, _⟩ := DataW.trod_int Try.underlying3 h
  exact ⟨x0, e0⟩
end
theorem opsAt_of {w : World} {B : Nat} {A : Option Addr} {l : List OpT} (h : RowR (fun _ y cs => cs = encOp y) w B 4 A l) : OpsAt w B A l := by
  intro i x hx
  obtain ⟨b, off, cs, e, hlt, rfl, _, hc⟩ := h i x hx
  exact ⟨b, off, e, hlt, hc⟩
theorem intsAt_of {w : World} {B : Nat} {A : Option Addr} {l : List Int} (h : RowR (fun _ y cs => cs = [Value.int .i64 y]) w B 1 A l) : IntsAt w B A l := by
  intro i x hx
  obtain ⟨b, off, cs, e, hlt, rfl, _, hc⟩ := h i x hx
  exact ⟨b, off, e, hlt, by simpa using hc 0 _ rfl⟩
end Go.Proofs.Ytgfiifhnnjammaa
