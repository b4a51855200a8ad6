/- The arguments of the gds laws, opened: a variable, a list of variables. -/
import Derived.Test.YtmldbabahiapdaaQPd
import Derived.Test.YtmldbabahiapdaaArgs
import Derived.ProofKit
import Derived.OpenShut
import Derived.ChangeOld
namespace Go.Proofs.Ytmldbabahiapdaa.Q
open Go.RowKit Go.Mine Go.Proofs.YtmldbabahiapdaaW.PrintWords Go.Proofs.YtmldbabahiapdaaW.PrintLast Go.Proofs.YtmldbabahiapdaaW.PrintMore
set_option linter.unusedVariables false
set_option linter.unusedSimpArgs false

/-- A row that came in, in the print's words. -/
theorem C_of_row {α : Type} {d : Kd α} {E : World → α → List Value → Prop} (hE : ∀ w y cs, E w y cs → d.K w y cs) {w : World} {B size : Nat} (hs : d.sz = size) {A : Option Addr} {l : List α} (h : RowR E w B size A l) (hz : l.length ≤ 9223372036854775807) :
    Kd.C d w A l.length l := by
  subst hs
  refine ⟨rfl, hz, fun hp => ?_⟩
  obtain ⟨b, off, cs, e, _⟩ := h 0 _ (List.getElem?_eq_getElem hp)
  refine ⟨⟨b, off, none⟩, e, fun j p hj => ?_⟩
  obtain ⟨b', off', cs', e', _, hc, hl, hcell⟩ := h j p hj
  rw [e] at e'
  cases e'
  refine ⟨cs', hl, hE _ _ _ hc, fun i u hu => ?_⟩
  have := hcell i u hu
  have ea : ∀ n, (⟨b, off, none⟩ : Addr).add n = ⟨b, off + n, none⟩ := by
    intro n
    unfold Addr.add
    by_cases h0 : n = 0
    · simp [h0]
    · simp [h0]
  rw [ea, ← Nat.add_assoc]
  exact this

section
variable {H : Type} {enc : TypeId × Value → H} {w : World} {base : Nat} {spare : Nat → Bool} {held : Bool}
theorem u8_open (n : Nat) (cs : List Value) (z : DataW H × List MemPlace) (h : DataW.trod enc Try.prog w base spare held n 5 cs = some z) : ∃ y : Int, cs = [.int .u8 y] ∧ (Lit.int .u8 y).wf = true := by
  obtain ⟨x0, e0, _, hw⟩ := DataW.trod_int Try.underlying5 h
  exact ⟨x0, e0, hw⟩
theorem bytes_field {n : Nat} {v : Value} {z : DataW H × List MemPlace} (h : DataW.trod enc Try.prog w base spare held n 22 [v] = some z) :
    ∃ (A : Option Addr) (c : Nat) (l : List Int), v = .slice A l.length c ∧ l.length ≤ c ∧ Kd.C (Kd.int .u8) w A l.length l ∧ Bytes l := by
  obtain ⟨A, len, cap, hv, hm⟩ : ∃ A len cap, v = .slice A len cap ∧ len ≤ 9223372036854775807 := by
    rcases Go.Deep.open_slice Try.underlying22 h with ⟨h0, _⟩ | ⟨a, len, cap, m, n', D, Pl, hcs, _, hl, hm, _⟩
    · exact ⟨none, 0, 0, by simpa using h0, by omega⟩
    · exact ⟨some a, len, cap, by simpa using hcs, by unfold maxLen at hm; omega⟩
  subst hv
  obtain ⟨ys, rfl, hr, hc⟩ := open_row (size := 1) (fun _ y cs => cs = [Value.int .u8 y] ∧ (Lit.int .u8 y).wf = true) Try.underlying22 (by kernel_rfl) (by decide) (fun n cs z hz => u8_open n cs z hz) h
  refine ⟨A, cap, ys, rfl, hc, C_of_row (d := Kd.int .u8) (fun _ _ _ h => h.1) rfl hr hm, bytes_wf fun x hx => ?_⟩
  obtain ⟨i, hi, rfl⟩ := List.mem_iff_getElem.1 hx
  obtain ⟨b, off, cs, e, _, ⟨_, hw⟩, _⟩ := hr i _ (List.getElem?_eq_getElem hi)
  exact hw
theorem var_open (n : Nat) (cs : List Value) (z : DataW H × List MemPlace) (h : DataW.trod enc Try.prog w base spare held n 24 cs = some z) : ∃ y : S24, k24.K w y cs ∧ Bytes y.f1 := by
  obtain ⟨y0, y1, m, hx, hl, h0, h1⟩ := Go.ChangeShapes.trod_struct2 Try.underlying24 h
  have hc : Try.prog.cellsOf 24 = 2 := by kernel_rfl
  have c3 : Try.prog.cellsOf 3 = 1 := by kernel_rfl
  have c22 : Try.prog.cellsOf 22 = 1 := by kernel_rfl
  rw [hc] at hl
  obtain ⟨v0, v1, rfl⟩ : ∃ a b, cs = [a, b] := by
    match cs, hl with
    | [a, b], _ => exact ⟨a, b, rfl⟩
  simp only [c3, c22, List.drop_zero, List.take_succ_cons, List.take_zero, List.drop_succ_cons] at h0 h1
  obtain ⟨x0, e0, _, _⟩ := DataW.trod_int Try.underlying3 h0
  simp only [List.cons.injEq, and_true] at e0
  subst e0
  obtain ⟨A, c, l, rfl, hlc, hC, hB⟩ := bytes_field h1
  exact ⟨⟨x0, l⟩, ⟨[.int .i64 x0], [.slice A l.length c], rfl, rfl, A, c, rfl, hlc, hC⟩, hB⟩
end
theorem bytes_items {w : World} {B : Nat} {A : Option Addr} {l : List S24} (h : RowR (fun w y cs => k24.K w y cs ∧ Bytes y.f1) w B 2 A l) : ∀ v ∈ l, Bytes v.f1 := by
  intro x hx
  obtain ⟨i, hi, rfl⟩ := List.mem_iff_getElem.1 hx
  obtain ⟨b, off, cs, e, _, ⟨_, hw⟩, _⟩ := h i _ (List.getElem?_eq_getElem hi)
  exact hw
end Go.Proofs.Ytmldbabahiapdaa.Q
