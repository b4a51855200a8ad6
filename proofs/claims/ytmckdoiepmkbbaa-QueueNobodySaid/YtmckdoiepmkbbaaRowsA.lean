/- The arguments of the store's laws, opened: lists of uint64. -/
import Derived.Test.YtmckdoiepmkbbaaQuI
import Derived.Test.YtmckdoiepmkbbaaArgs
import Derived.OpenShut
import Derived.ShutString
import Derived.ChangeOld
namespace Go.Proofs.Ytmckdoiepmkbbaa
open Go.RowKit Go.Mine
set_option linter.unusedVariables false
set_option linter.unusedSimpArgs false
section
variable {H : Type} {enc : TypeId × Value → H} {w : World} {base : Nat} {spare : Nat → Bool} {held : Bool}
theorem u64_open (n : Nat) (cs : List Value) (z : DataW H × List MemPlace) (h : DataW.trod enc Try.prog w base spare held n 28 cs = some z) : ∃ y : Int, cs = [.int .u64 y] := by
  obtain ⟨x0, e0, _, _⟩ := DataW.trod_int Try.underlying28 h
  exact ⟨x0, e0⟩
end
theorem usAt_of {w : World} {B : Nat} {A : Option Addr} {l : List Int} (h : RowR (fun _ y cs => cs = [Value.int .u64 y]) w B 1 A l) : UAt w B A l := by
  intro i x hx
  obtain ⟨b, off, cs, e, hlt, rfl, _, hc⟩ := h i x hx
  exact ⟨b, off, e, hlt, fun j v hv => by simpa using hc j v hv⟩
end Go.Proofs.Ytmckdoiepmkbbaa
