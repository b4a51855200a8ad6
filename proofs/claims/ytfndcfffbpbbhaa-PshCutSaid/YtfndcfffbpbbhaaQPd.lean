/- gds, plainly: what Next tells. -/
import Derived.Test.YtfndcfffbpbbhaaQPa
import Derived.Test.YtfndcfffbpbbhaaQHand
import Derived.OpenShut
namespace Go.Proofs.Ytfndcfffbpbbhaa.Q
open Go.RowKit Go.Proofs.YtfndcfffbpbbhaaW.PrintWords Go.Proofs.YtfndcfffbpbbhaaW.PrintLast Go.Proofs.YtfndcfffbpbbhaaW.PrintMore
set_option linter.unusedVariables false
set_option linter.unusedSimpArgs false
theorem bytes_nil : Bytes [] := fun x h => by cases h
theorem Bytes.app {a b : List Int} (h : Bytes a) (h' : Bytes b) : Bytes (a ++ b) := fun x hx => (List.mem_append.1 hx).elim (h x) (h' x)
theorem Bytes.take {a : List Int} (h : Bytes a) (n : Nat) : Bytes (a.take n) := fun x hx => h x (List.mem_of_mem_take hx)
theorem Bytes.drop {a : List Int} (h : Bytes a) (n : Nat) : Bytes (a.drop n) := fun x hx => h x (List.mem_of_mem_drop hx)
theorem nextS_spec {b : List Int} (hb : Bytes b) : ∀ (s i : Nat) (first : Bool) (id : Int) (data : List Int), i ≤ b.length → Bytes data → data.length ≤ 2048 → (first = false → 0 ≤ id ∧ id ≤ 65535) →
  ((nextS b s i first id data).2.2.2 ≠ 0 ∧ (nextS b s i first id data).1 = 0 ∧ (nextS b s i first id data).2.1 = [] ∧ (nextS b s i first id data).2.2.1 = 0) ∨
  ((nextS b s i first id data).2.2.2 = 0 ∧ (0 ≤ (nextS b s i first id data).1 ∧ (nextS b s i first id data).1 ≤ 65535) ∧ Bytes (nextS b s i first id data).2.1 ∧ (nextS b s i first id data).2.1.length ≤ 2048 ∧
   ∃ n : Nat, (nextS b s i first id data).2.2.1 = n ∧ n ≤ b.length ∧ (nextS b s i first id data).2.1.length + i + (if first then 4 else 2) ≤ n + data.length) := by
 intro s
 induction s with
 | zero =>
  intro i first id data hi hd hd2 hid
  left
  simp [nextS]
 | succ s ih =>
  intro i first id data hi hd hd2 hid
  have h0 := hb.get i
  have h1 := hb.get (i + 1)
  have h2 := hb.get 2
  have h3 := hb.get 3
  simp only [nextS]
  generalize hr : 256 * b.getD i 0 + b.getD (i + 1) 0 = r at *
  generalize hn : (r % 32768).toNat = n at *
  by_cases c1 : b.length < i + 2
  ·rw [if_pos c1]; left; simp
  rw [if_neg c1]
  have hidd : 0 ≤ (if first = true then 256 * b.getD 2 0 + b.getD 3 0 else id) ∧ (if first = true then 256 * b.getD 2 0 + b.getD 3 0 else id) ≤ 65535 := by
   cases first with
   | true => simp only [if_true]; omega
   | false => exact hid rfl
  generalize (if first = true then 256 * b.getD 2 0 + b.getD 3 0 else id) = id' at *
  have hH : 2 ≤ (if first = true then 4 else 2 : Nat) := by split <;> omega
  generalize (if first = true then 4 else 2 : Nat) = H at *
  by_cases c2 : n < H
  ·rw [if_pos c2]; left; simp
  rw [if_neg c2]
  by_cases c3 : b.length < i + n
  ·rw [if_pos c3]; left; simp
  rw [if_neg c3]
  have hdl : ((b.take (i + n)).drop (i + H)).length = n - H := by rw [List.length_drop, List.length_take]; omega
  by_cases c5 : 2048 < (data ++ (b.take (i + n)).drop (i + H)).length
  ·rw [if_pos c5]; left; simp
  rw [if_neg c5]
  have hl : (data ++ (b.take (i + n)).drop (i + H)).length = data.length + (n - H) := by rw [List.length_append, hdl]
  have hB2 : Bytes (data ++ (b.take (i + n)).drop (i + H)) := hd.app ((hb.take _).drop _)
  obtain ⟨d2, hd2e⟩ : ∃ d2, data ++ (b.take (i + n)).drop (i + H) = d2 := ⟨_, rfl⟩
  rw [hd2e] at c5 hl hB2 ⊢
  by_cases c6 : r < 32768
  ·rw [if_pos c6]
   right
   exact ⟨rfl, hidd, hB2, by simp only; omega, i + n, rfl, by omega, by simp only; omega⟩
  rw [if_neg c6]
  rcases ih (i + n) false id' d2 (by omega) hB2 (by omega) (fun _ => hidd) with h | ⟨e1, e2, e3, e4, m, e5, e6, e7⟩
  ·exact .inl h
  ·refine .inr ⟨e1, e2, e3, e4, m, e5, e6, ?_⟩
   simp only [Bool.false_eq_true, if_false] at e7
   omega
end Go.Proofs.Ytfndcfffbpbbhaa.Q
