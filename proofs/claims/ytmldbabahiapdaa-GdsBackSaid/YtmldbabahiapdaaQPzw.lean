/- The call of GdsBack answers true. -/
import Derived.Test.YtmldbabahiapdaaQPz
import Derived.Test.YtmldbabahiapdaaRowsG
namespace Go.Proofs.Ytmldbabahiapdaa.Q
open Go.RowKit Go.Mine Go.Proofs.YtmldbabahiapdaaW.PrintWords Go.Proofs.YtmldbabahiapdaaW.PrintLast Go.Proofs.YtmldbabahiapdaaW.PrintMore
theorem back_walk (A : Option Addr) (c : Nat) (l : List S24) (a1 a2 : Int) (w : World) (hr : RowR (fun w y cs => k24.K w y cs ∧ Bytes y.f1) w w.heap.size 2 A l) (hz : l.length ≤ 9223372036854775807) (hc : l.length ≤ c) :
    Calls Try.prog 8 #[.slice A l.length c, .int .i64 a1, .int .i64 a2] w fun e w' => e = .returned (.bool true) ∧ Below w.heap.size w w' := by
  obtain ⟨k, hk⟩ := back_plain l a1 a2 (bytes_items hr)
  exact trothlaw04_GdsBack.calls k A c l a1 a2 true w (C_of_row (d := k24) (fun _ _ _ h => h.1) rfl hr hz) hc hk
end Go.Proofs.Ytmldbabahiapdaa.Q
