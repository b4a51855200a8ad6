/- Hand-made contracts of luw.number and bytes.Compare in the print's words; with digits they stand under the printed functions. -/
import Derived.Test.YtlbajagnfmbljaaQOwn
import Derived.Test.YtlbajagnfmbljaaQNum
import Derived.Lib.BytesEntry
import Derived.Laws.Externs
namespace Go.Proofs.Ytlbajagnfmbljaa.Q
open Go.RowKit Go.Proofs.YtlbajagnfmbljaaW.PrintWords Go.Proofs.YtlbajagnfmbljaaW.PrintLast Go.Proofs.YtlbajagnfmbljaaW.PrintMore
set_option linter.unusedVariables false
set_option linter.unusedSimpArgs false

theorem luw_number.calls (a0 : ByteArray) (a1 : Int) (r1 : Int) (r2 : ByteArray) (r3 : Bool) (w : World) (h : luw_number.f a0 a1 = some (r1, r2, r3)) :
    Calls Try.prog 28 #[.string a0, .int .u8 a1] w fun e w' => e = .returned (.tuple #[.int .u32 r1, .string r2, .bool r3]) ∧ Drawn0 w w' := by
  have hs : a0.size ≤ 9223372036854775807 := by
    apply Classical.byContradiction
    intro hn
    unfold luw_number.f at h
    rw [if_neg hn] at h
    cases h
  refine (number_any a0 a1 w hs).mono ?_
  rintro e w' ⟨x1, x2, x3, hx, rfl, hd⟩
  rw [h] at hx
  cases hx
  exact ⟨rfl, hd⟩

/-- bytes.Compare of two rows. -/
def bytes_Compare.f (l0 l1 : List Int) : Option Int := some (Lib.compareBytes (Lib.bytesOf l0) (Lib.bytesOf l1))

theorem run_row {P : Program} {w : World} {A : Option Addr} {c : Nat} {l : List Int} (h : Kd.C (Kd.int .u8) w A l.length l) :
    (Extern.Bytes.bytesOf (.slice A l.length c)).run P w = .ok ⟨(Lib.bytesOf l).toArray⟩ w := by
  cases A with
  | none =>
    cases l with
    | nil => simp [Extern.Bytes.bytesOf, Lib.bytesOf]; rfl
    | cons x xs =>
      obtain ⟨ad, he, _⟩ := Kd.at_int h 0 (by omega) (by simp)
      cases he
  | some a =>
    have hl := Lib.run_loadBytesX (P := P) w l a .empty (fun j x hj => by
      have hjl : j < l.length := (List.getElem?_eq_some_iff.1 hj).1
      have := Kd.foot_int h (j : Int) (by omega) (by omega)
      rw [show ((j : Int)).toNat = j by omega] at this
      rw [this, rd, show ((j : Int)).toNat = j by omega, List.getD_eq_getElem?_getD, hj]
      rfl)
    have he : (⟨ByteArray.empty.data ++ (Lib.bytesOf l).toArray⟩ : ByteArray) = ⟨(Lib.bytesOf l).toArray⟩ := by
      apply ByteArray.ext
      show (#[] : Array UInt8) ++ (Lib.bytesOf l).toArray = (Lib.bytesOf l).toArray
      simp
    rw [he] at hl
    exact hl

theorem run_compareRows {P : Program} {w : World} {A0 A1 : Option Addr} {c0 c1 : Nat} {l0 l1 : List Int} (h0 : Kd.C (Kd.int .u8) w A0 l0.length l0) (h1 : Kd.C (Kd.int .u8) w A1 l1.length l1) :
    (Extern.BytealgCompare.compare #[.slice A0 l0.length c0, .slice A1 l1.length c1]).run P w = .ok (.int .i64 (Lib.compareBytes (Lib.bytesOf l0) (Lib.bytesOf l1))) w := by
  change Sem.run P (do pure (goInt (Extern.BytealgCompare.cmp (← Extern.Bytes.bytesOf (.slice A0 l0.length c0)) (← Extern.Bytes.bytesOf (.slice A1 l1.length c1))))) w = _
  simp only [Sem.run_bind, run_row h0, run_row h1, Sem.run_pure, Result.andThen]
  rw [Lib.cmp_eq]
  rfl

set_option maxHeartbeats 1000000 in
set_option maxRecDepth 100000 in
theorem bytes_Compare.calls (A0 : Option Addr) (c0 : Nat) (l0 : List Int) (A1 : Option Addr) (c1 : Nat) (l1 : List Int) (r : Int) (w : World) (hr0 : Kd.C (Kd.int .u8) w A0 l0.length l0) (hc0 : l0.length ≤ c0) (hr1 : Kd.C (Kd.int .u8) w A1 l1.length l1) (hc1 : l1.length ≤ c1) (h : bytes_Compare.f l0 l1 = some r) :
    Calls Try.prog 32 #[.slice A0 l0.length c0, .slice A1 l1.length c1] w fun e w' => e = .returned (.int .i64 r) ∧ Drawn0 w w' := by
  cases h
  go_enter Try.func32, Try.ntmps32
  go_wp2_with fail
  rw [run_callFunc_extern Try.func33 (by kernel_rfl) (by kernel_rfl) (by kernel_rfl) (e := Extern.BytealgCompare.compare) (by kernel_rfl), run_compareRows hr0 hr1]
  simp only [Result.andThen]
  rw [Oper.upon_value]
  go_wp2_with fail
  go_ret
  exact ⟨rfl, Drawn0.refl _⟩

end Go.Proofs.Ytlbajagnfmbljaa.Q
