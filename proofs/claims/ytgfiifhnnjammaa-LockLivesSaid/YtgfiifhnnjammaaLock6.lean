/- Walk of trothlaw12.LockTwice: it answers true. Condition: the arguments lie in memory as their lists say. -/
import Derived.Test.YtgfiifhnnjammaaLock5
namespace Go.Mine
theorem takeA_ok {A : LTab} {o k : Int} {al : Bool} (h : (takeA A o k al).1 = 0) : (takeA A o k al).2 = aput (k, o) ((aget (k, o) A).getD false || al) A := by
  unfold takeA at h ⊢
  split at h
  · cases h
  · rename_i h1
    rw [if_neg h1]
    split at h
    · cases h
    · rename_i h2
      rw [if_neg h2]
theorem twice {A : LTab} {o k : Int} {al : Bool} (hA : Right A) (h1 : aget (k, o) A = some true) :
    (takeA A o k al).1 = 0 ∧ aget (k, o) (takeA A o k al).2 = some true ∧ (takeA A o k al).2.length = A.length := by
  have hm := aget_mem h1
  have hno : A.any (confA o k al ((aget (k, o) A).getD false)) = false := by
    rw [List.any_eq_false]
    intro e he hc
    simp only [confA, Bool.and_eq_true, beq_iff_eq, bne_iff_ne] at hc
    have := hA.clash _ hm e he hc.1.1.symm (fun q => hc.1.2 q.symm)
    cases this
  have hs : (aget (k, o) A).isSome = true := by rw [h1]; rfl
  have ht : takeA A o k al = (0, aput (k, o) true A) := by
    unfold takeA
    rw [if_neg (by simp [hno]), if_neg (by simp [hs]), h1]
    rfl
  rw [ht]
  exact ⟨rfl, aget_put_self _ _ hA.keys, aput_length_same hs⟩
theorem nobody {A : LTab} {o p k : Int} {al : Bool} (h1 : aget (k, o) A = some true) (hp : o ≠ p) : takeA A p k al = (120, A) := by
  have hm := aget_mem h1
  have hno : A.any (confA p k al ((aget (k, p) A).getD false)) = true := by
    rw [List.any_eq_true]
    exact ⟨_, hm, by simp [confA, hp]⟩
  unfold takeA
  rw [if_pos hno]
end Go.Mine
namespace Go.Proofs.Ytgfiifhnnjammaa
open Go.RowKit Go.Mine
set_option linter.unusedVariables false
set_option linter.unusedSimpArgs false

theorem holds_k {w : World} {F : Nat → Prop} {b0 : Nat} {A : LTab} (h : Tbl w F b0 A) (o k : Int) :
    Calls Try.prog 10 #[.pointer (some ⟨b0, 0, none⟩), .int .i64 o, .int .i64 k] w fun e w' => e = .returned (.tuple #[.bool (aget (k, o) A).isSome, .bool ((aget (k, o) A).getD false)]) ∧ w = w' :=
  (holds_t h o k).mono fun _ _ ⟨a, b⟩ => ⟨a, b.symm⟩
theorem len_k {w : World} {F : Nat → Prop} {b0 : Nat} {A : LTab} (h : Tbl w F b0 A) :
    Calls Try.prog 13 #[.pointer (some ⟨b0, 0, none⟩)] w fun e w' => e = .returned (.int .i64 A.length) ∧ w = w' :=
  (len_t h).mono fun _ _ ⟨a, b⟩ => ⟨a, b.symm⟩

set_option maxHeartbeats 1000000 in
theorem twice_any (A : Option Addr) (l : List OpT) (cap : Nat) (owner other key : Int) (alone : Bool) (w : World) (hl : OpsAt w w.heap.size A l) (hcap : l.length ≤ 1000000000000000000) :
    Calls Try.prog 4 #[.slice A l.length cap, .int .i64 owner, .int .i64 other, .int .i64 key, .bool alone] w fun e w' => e = .returned (.bool true) ∧ Below w.heap.size w w' := by
  go_enter Try.func4, Try.ntmps4
  go_wp2_with fail
  refine (played_any A l cap w _ (Nat.le_refl _) hl hcap).mono ?_
  rintro e w1 ⟨b0, rfl, t1, f1⟩
  have hR := Right.play l
  generalize playA l = A0 at t1 hR
  go_wp2_with fail
  refine (take_o t1 owner key true).mono ?_
  rintro e w2 ⟨rfl, t2, f2⟩
  have g2 := f1.trans f2
  cases h0 : ((takeA A0 owner key true).1 != 0)
  · by_cases ho : owner = other
    · have hob : (owner == other) = true := by simpa using ho
      clear ho
      go_wp2_with fail
      refine (alive_any w2).mono ?_
      rintro e w3 ⟨rfl, f3⟩
      go_wp2_with fail
      go_ret
      exact ⟨rfl, g2.trans (f3.mono g2.size)⟩
    · have hob : (owner == other) = false := by simpa using ho
      have h00 : (takeA A0 owner key true).1 = 0 := by simpa using h0
      have hR1 := hR.take owner key true
      have hg1 : aget (key, owner) (takeA A0 owner key true).2 = some true := by
        rw [takeA_ok h00, Bool.or_true]; exact aget_put_self _ _ hR.keys
      obtain ⟨e1, e2, e3⟩ := twice (al := alone) hR1 hg1
      have hR2 := hR1.take owner key alone
      have e4 := nobody (al := alone) e2 ho
      have HO := hid ho
      clear ho h00
      generalize (takeA A0 owner key true).2 = A1 at *
      go_wp2_with fail
      refine (len_k t2.1).mono ?_
      rintro e w3 ⟨rfl, rfl⟩
      go_wp2_with fail
      have c3 := take_o t2 owner key alone
      rw [e1] at c3
      refine c3.mono ?_
      clear c3
      rintro e w3 ⟨rfl, t3, f3⟩
      go_wp2_with fail
      have c4 := holds_k t3.1 owner key
      rw [e2] at c4
      refine c4.mono ?_
      clear c4
      rintro e w4 ⟨rfl, rfl⟩
      go_wp2_with fail
      have g3 := g2.trans f3
      refine (alive_any w3).mono ?_
      rintro e w5 ⟨rfl, f5⟩
      have g5 := g3.trans (f5.mono g3.size)
      have t5 := t3.below f5 (Nat.le_refl _)
      go_wp2_with fail
      have c6 := len_k t5.1
      rw [e3] at c6
      refine c6.mono ?_
      clear c6
      rintro e w6 ⟨rfl, rfl⟩
      go_wp2_with fail
      have c7 := take_o t5 other key alone
      rw [e4] at c7
      refine c7.mono ?_
      clear c7
      rintro e w7 ⟨rfl, t7, f7⟩
      go_wp2_with fail
      have c8 := len_k t7.1
      rw [e3] at c8
      refine c8.mono ?_
      clear c8
      rintro e w8 ⟨rfl, rfl⟩
      go_wp2_with fail
      go_ret
      exact ⟨rfl, g5.trans f7⟩
  · go_wp2_with fail
    refine (alive_any w2).mono ?_
    rintro e w3 ⟨rfl, f3⟩
    go_wp2_with fail
    go_ret
    exact ⟨rfl, g2.trans (f3.mono g2.size)⟩
end Go.Proofs.Ytgfiifhnnjammaa
