/- A row of bytes that came in, in the words of the printed walks. -/
import Derived.Test.YtfndcfffbpbbhaaRowsM
import Derived.ProofKit
import Derived.OpenShut
namespace Go.Proofs.Ytfndcfffbpbbhaa.Q
open Go.RowKit Go.Proofs.YtfndcfffbpbbhaaW.PrintWords Go.Proofs.YtfndcfffbpbbhaaW.PrintLast Go.Proofs.YtfndcfffbpbbhaaW.PrintMore
set_option linter.unusedVariables false
set_option linter.unusedSimpArgs false

/-- A row of bytes that came in, in the print's words. -/
theorem bytes_of {w : World} {B : Nat} {A : Option Addr} {l : List Int} (h : Go.Mine.RowR (fun _ y cs => cs = [Value.int .u8 y] ∧ (Lit.int .u8 y).wf = true) w B 1 A l) (hz : l.length ≤ 9223372036854775807) :
    Kd.C (Kd.int .u8) w A l.length l ∧ ∀ x ∈ l, Byt x := by
  constructor
  · refine ⟨rfl, hz, fun hp => ?_⟩
    obtain ⟨b, off, cs, e, _⟩ := h 0 _ (List.getElem?_eq_getElem hp)
    refine ⟨⟨b, off, none⟩, e, fun j p hj => ?_⟩
    obtain ⟨b', off', cs', e', _, ⟨hc, _⟩, _, hcell⟩ := h j p hj
    rw [e] at e'
    cases e'
    refine ⟨[.int .u8 p], rfl, rfl, fun i u hu => ?_⟩
    have := hcell i u (by rw [hc]; exact hu)
    have ea : ∀ n, (⟨b, off, none⟩ : Addr).add n = ⟨b, off + n, none⟩ := by
      intro n
      unfold Addr.add
      by_cases h0 : n = 0
      · simp [h0]
      · simp [h0]
    change w.cell? ((⟨b, off, none⟩ : Addr).add (j * 1 + i)) = some u
    rw [ea, ← Nat.add_assoc]
    exact this
  · intro x hx
    obtain ⟨i, hi, rfl⟩ := List.mem_iff_getElem.1 hx
    obtain ⟨b, off, cs, e, _, ⟨_, hw⟩, _⟩ := h i _ (List.getElem?_eq_getElem hi)
    have := bounds_u8 hw
    exact ⟨by omega, by omega⟩

section
variable {H : Type} {enc : TypeId × Value → H} {w : World} {base : Nat} {spare : Nat → Bool} {held : Bool}
theorem u8_open (n : Nat) (cs : List Value) (z : DataW H × List MemPlace) (h : DataW.trod enc Try.prog w base spare held n 5 cs = some z) : ∃ y : Int, cs = [.int .u8 y] ∧ (Lit.int .u8 y).wf = true := by
  obtain ⟨x0, e0, _, hw⟩ := DataW.trod_int Try.underlying5 h
  exact ⟨x0, e0, hw⟩
end

end Go.Proofs.Ytfndcfffbpbbhaa.Q
