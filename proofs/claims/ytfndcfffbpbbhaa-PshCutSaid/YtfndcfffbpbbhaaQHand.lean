/- The functions of this seat that were walked by hand: gds.Next, gds.Write, psh.Name. -/
import Derived.Test.YtfndcfffbpbbhaaQNext
import Derived.Test.YtfndcfffbpbbhaaQWrite
import Derived.Test.YtfndcfffbpbbhaaQOct
namespace Go.Proofs.Ytfndcfffbpbbhaa.Q
open Go.RowKit Go.Proofs.YtfndcfffbpbbhaaW.PrintWords Go.Proofs.YtfndcfffbpbbhaaW.PrintLast Go.Proofs.YtfndcfffbpbbhaaW.PrintMore
set_option linter.unusedVariables false
set_option linter.unusedSimpArgs false

def nameOf : List ByteArray := [⟨#[]⟩, ⟨#[97, 116, 116, 97, 99, 104]⟩, ⟨#[112, 114, 101, 112, 97, 114, 101]⟩, ⟨#[121, 101, 115]⟩, ⟨#[114, 101, 97, 100, 111, 110, 108, 121]⟩, ⟨#[110, 111]⟩, ⟨#[97, 115, 107]⟩, ⟨#[99, 111, 109, 109, 105, 116]⟩, ⟨#[98, 97, 99, 107, 111, 117, 116]⟩, ⟨#[102, 111, 114, 103, 101, 116]⟩, ⟨#[100, 111, 110, 101]⟩, ⟨#[113, 117, 101, 114, 121]⟩, ⟨#[110, 97, 109, 101, 115]⟩, ⟨#[114, 101, 102, 117, 115, 101]⟩]
def psh_Name.f (a0 : Int) : Option ByteArray := if a0 < 1 ∨ 13 < a0 then some ⟨#[]⟩ else some (nameOf.getD a0.toNat ⟨#[]⟩)

set_option maxHeartbeats 1000000 in
theorem psh_names (w : World) : Calls Try.prog 26 #[] w fun e w' => e = .returned (.agg (nameOf.map Value.string).toArray) ∧ Below w.heap.size w w' := by
  go_enter Try.func26, Try.ntmps26
  go_wp2
  exact bodyPost_ret (v := .agg (nameOf.map Value.string).toArray) (by simp [results, Try.results26, go_sem, nameOf]) rfl ⟨rfl, (Below.refl _ _).alloc (Nat.le_refl _) _⟩

theorem names_at (w : World) (k : Nat) (hk : k < 14) : (Instr.index 49 (.agg (nameOf.map Value.string).toArray) (.int .i64 k)).run Try.prog w = .ok (.string (nameOf.getD k ⟨#[]⟩)) w := by
  rcases k with _|_|_|_|_|_|_|_|_|_|_|_|_|_|k
  all_goals first | (exfalso; omega) | kernel_rfl

set_option maxHeartbeats 1000000 in
theorem psh_Name.calls (a0 : Int) (r : ByteArray) (w : World) (h : psh_Name.f a0 = some r) :
    Calls Try.prog 13 #[.int .i64 a0] w fun e w' => e = .returned (.string r) ∧ Below w.heap.size w w' := by
  unfold psh_Name.f at h
  by_cases c : a0 < 1 ∨ 13 < a0
  · rw [if_pos c] at h; cases h
    rcases c with c | c
    · go_enter Try.func13, Try.ntmps13
      go_wp2
      go_ret
      exact ⟨rfl, Below.refl _ _⟩
    · have c' : ¬ a0 < 1 := by omega
      go_enter Try.func13, Try.ntmps13
      go_wp2
      go_ret
      exact ⟨rfl, Below.refl _ _⟩
  · rw [if_neg c] at h; cases h
    obtain ⟨k, rfl⟩ := Int.eq_ofNat_of_zero_le (show 0 ≤ a0 by omega)
    have c1 : ¬ (k : Int) < 1 := by omega
    have c2 : ¬ 13 < (k : Int) := by omega
    rw [Int.toNat_natCast]
    have hat := fun w => names_at w k (by omega)
    have hnm := psh_names
    generalize (nameOf.map Value.string).toArray = V at hat hnm
    generalize nameOf.getD k ⟨#[]⟩ = s at hat ⊢
    go_enter Try.func13, Try.ntmps13
    go_wp2_with (go_at_call 26; refine (hnm _).mono ?_; rintro e w' ⟨rfl, hb⟩)
    go_ret
    exact ⟨rfl, hb⟩
end Go.Proofs.Ytfndcfffbpbbhaa.Q
