/- Walk of trothlaw13.KvLast: it answers true. Condition: the argument's slice reads as its list. -/
import Derived.Test.YtekebjcknhjceaaKvL0
namespace Go.Proofs.Ytekebjcknhjceaa
open Go.RowKit Go.Mine Go.Proofs.YtekebjcknhjceaaW.PrintWords
set_option linter.unusedVariables false
set_option linter.unusedSimpArgs false

/-- A slice of uint64 that came in. -/
def UsAt (w : World) (B : Nat) (A : Option Addr) (l : List Int) : Prop :=
  ∀ i x, l[i]? = some x → ∃ b off, A = some ⟨b, off, none⟩ ∧ b < B ∧ w.cell? ⟨b, off + i, none⟩ = some (.int .u64 x)
theorem UsAt.below {w w' : World} {B : Nat} {A : Option Addr} {l : List Int} (h : UsAt w B A l) (hb : Below B w w') : UsAt w' B A l := by
  intro i x hx
  obtain ⟨b, off, e, hlt, hc⟩ := h i x hx
  exact ⟨b, off, e, hlt, (hb.cell (p := ⟨b, off + i, none⟩) hlt).trans hc⟩
/-- The last change behind i puts. -/
def lastPut (k : Int) (l : List Int) (i : Nat) : Option Ch := (l.take i).getLast?.map (fun v => ⟨1, k, v⟩)
theorem lastPut_key {k : Int} {l : List Int} {i : Nat} : ∀ d, lastPut k l i = some d → d.key = k := by
  intro d h
  unfold lastPut at h
  cases hg : (l.take i).getLast? with
  | none => rw [hg] at h; cases h
  | some v => rw [hg] at h; cases h; rfl
theorem lastPut_step {k : Int} {l : List Int} {i : Nat} {v : Int} (h : l[i]? = some v) : lastPut k l (i + 1) = some ⟨1, k, v⟩ := by
  have h1 := (List.getElem?_eq_some_iff.1 h).1
  have h2 := (List.getElem?_eq_some_iff.1 h).2
  unfold lastPut
  rw [List.take_succ_eq_append_getElem h1, h2]
  simp

set_option maxRecDepth 100000 in
set_option maxHeartbeats 4000000 in
theorem last_any (n k : Int) (A : Option Addr) (l : List Int) (c : Nat) (last : Bool) (w : World) (hl : UsAt w w.heap.size A l) :
    Calls Try.prog 3 #[.int .i64 n, .int .i64 k, .slice A l.length c, .bool last] w fun e w' => e = .returned (.bool true) ∧ Below w.heap.size w w' := by
  go_enter Try.func3, Try.ntmps3
  go_wp2_with fail
  refine (new_st w).mono ?_
  rintro e w1 ⟨b0, rfl, t1, f1⟩
  by_cases hlen : l.length ≤ 100
  · have hll : ¬ (100 : Int) < l.length := by omega
    go_wp2_with fail
    by_cases hbad : n < 1 ∨ k < 0 ∨ 16 ≤ k
    · have HB := hid hbad
      cases l with
      | nil =>
        have hz : (([] : List Int).length : Int) = 0 := rfl
        simp only [List.length_nil] at hll hlen ⊢
        clear hbad
        refine wp_loop_once ?_
        cases last
        · go_wp2_with fail
          have c2 := get_st t1 n k
          rw [bad_get HB.out] at c2
          refine c2.mono ?_
          clear c2
          rintro e w2 ⟨rfl, t2, f2⟩
          go_wp2_with fail
          refine (alive_any _).mono ?_
          rintro e w3 ⟨rfl, f3⟩
          go_wp2_with fail
          go_ret
          exact ⟨rfl, (f1.trans f2).trans (f3.mono (f1.trans f2).size)⟩
        · go_wp2_with fail
          have c2 := del_st t1 n k
          rw [bad_change HB.out] at c2
          refine c2.mono ?_
          clear c2
          rintro e w2 ⟨rfl, t2, f2⟩
          go_wp2_with fail
          have c3 := get_st t2 n k
          rw [bad_get HB.out] at c3
          refine c3.mono ?_
          clear c3
          rintro e w3 ⟨rfl, t3, f3⟩
          go_wp2_with fail
          have g3 := (f1.trans f2).trans f3
          refine (alive_any _).mono ?_
          rintro e w4 ⟨rfl, f4⟩
          go_wp2_with fail
          go_ret
          exact ⟨rfl, g3.trans (f4.mono g3.size)⟩
      | cons x xs =>
        obtain ⟨b, off, rfl, hb1, hc⟩ := (hl.below f1) 0 x rfl
        rw [Nat.add_zero] at hc
        have hz : (0 : Int) < ((x :: xs).length : Int) := by simp
        have hn1 : n < 1 ∨ ¬ n < 1 := by omega
        have hk1 : k < 0 ∨ ¬ k < 0 := by omega
        clear hbad
        refine wp_loop_once ?_
        go_wp2_with fail
        have c2 := put_st t1 n k x
        rw [bad_change HB.out] at c2
        refine c2.mono ?_
        clear c2
        rintro e w2 ⟨rfl, t2, f2⟩
        have g2 := f1.trans f2
        go_wp2_with fail
        refine (alive_any _).mono ?_
        rintro e w3 ⟨rfl, f3⟩
        have g3 := g2.trans (f3.mono g2.size)
        rcases hn1 with hn1 | hn1
        · go_wp2_with fail
          go_ret
          exact ⟨rfl, g3⟩
        · rcases hk1 with hk1 | hk1
          · go_wp2_with fail
            go_ret
            exact ⟨rfl, g3⟩
          · have hk2 : 16 ≤ k := by have := HB.out; omega
            go_wp2_with fail
            go_ret
            exact ⟨rfl, g3⟩
    · have a1 : 1 ≤ n := by omega
      have a2 : 0 ≤ k := by omega
      have a3 : k < 16 := by omega
      have A1 := hid a1
      have A2 := hid a2
      have A3 := hid a3
      clear hbad a1 a2 a3
      go_loopg [10, 11, 12] (l.length + 1) (fun m v u i wr => ∃ j : Nat, i = .int .i64 j ∧ j ≤ l.length ∧ m = l.length + 1 - j ∧ v = .int .u64 (wantV (lastPut k l j)) ∧ u = .bool (wantB (lastPut k l j)) ∧ St w.heap.size wr b0 (oneS k n (lastPut k l j)) ∧ Below w.heap.size w wr)
      case atStart => exact ⟨0, rfl, Nat.zero_le _, rfl, rfl, rfl, t1, f1⟩
      case round =>
        obtain ⟨j, rfl, hj, hm, rfl, rfl, ht, hb⟩ := hrel
        have HN := hid hm
        clear hm
        by_cases h1 : j < l.length
        · obtain ⟨x, hx⟩ : ∃ x, l[j]? = some x := ⟨_, List.getElem?_eq_getElem h1⟩
          obtain ⟨b, off, rfl, hb1, hcc⟩ := (hl.below hb) j x hx
          have HS := hid (lastPut_step (k := k) hx)
          clear hx
          generalize hlp : lastPut k l j = o at *
          have hok : ∀ d, o = some d → d.key = k := by rw [← hlp]; exact lastPut_key
          have HC := hid (one_change A1.out A2.out A3.out o hok ⟨1, k, x⟩ rfl)
          clear hlp hok
          go_wp2_with fail
          have c2 := put_st ht n k x
          rw [HC.out] at c2
          refine c2.mono ?_
          clear c2
          rintro e w2 ⟨rfl, t2, f2⟩
          have g2 := hb.trans f2
          have hcc2 := (f2.cell (p := ⟨b, off + j, none⟩) hb1).trans hcc
          clear hcc
          go_wp2_with fail
          go_roundg (l.length + 1 - (j + 1))
          case measure => rw [HN.out]; omega
          case rel => exact ⟨j + 1, by go_num, by omega, rfl, by rw [HS.out]; rfl, by rw [HS.out]; rfl, by rw [HS.out]; exact t2, g2⟩
        · have hjl : j = l.length := by omega
          have hok : ∀ d, lastPut k l j = some d → d.key = k := lastPut_key
          generalize lastPut k l j = o at *
          cases last
          · have HG := hid (one_get A1.out A2.out A3.out o hok)
            have HE := hid (one_end A1.out A2.out A3.out o hok)
            have d1 : (wantV (o) == wantV (o)) = true := by simp
            have d2 : (wantB (o) == wantB (o)) = true := by simp
            have c3 := get_st ht n k
            rw [HG.out] at c3
            generalize hwv : wantV (o) = wv at *
            generalize hwb : wantB (o) = wb at *
            clear hwv hwb
            go_wp2_with fail
            refine c3.mono ?_
            clear c3
            rintro e w3 ⟨rfl, t3, f3⟩
            have g3 := (hb).trans f3
            go_wp2_with fail
            have c4 := prepare_st t3 n
            rw [HE.out.1] at c4
            refine c4.mono ?_
            clear c4
            rintro e w4 ⟨A4, c4, rfl, _, t4, f4⟩
            have g4 := g3.trans f4
            have hle : ((((oneS k n (o)).get n k).2.prepare n).1.1.length : Int) ≤ 1 := by have := HE.out.2.1; omega
            generalize (((oneS k n (o)).get n k).2.prepare n).1.1.length = nl at *
            go_wp2_with fail
            refine (commit_st t4 n).mono ?_
            rintro e w5 ⟨rfl, t5, f5⟩
            have g5 := g4.trans f5
            go_wp2_with fail
            have c6 := value_st t5 k
            rw [HE.out.2.2] at c6
            refine c6.mono ?_
            clear c6
            rintro e w6 ⟨rfl, t6, f6⟩
            have g6 := g5.trans (f6.mono g5.size)
            go_wp2_with fail
            refine (alive_any _).mono ?_
            rintro e w7 ⟨rfl, f7⟩
            go_wp2_with fail
            go_ret
            exact ⟨rfl, g6.trans (f7.mono g6.size)⟩
          · have HC := hid (one_change A1.out A2.out A3.out o hok ⟨2, k, 0⟩ rfl)
            have hok2 : ∀ d, (some (⟨2, k, 0⟩ : Ch)) = some d → d.key = k := by intro d h; cases h; rfl
            clear hok
            go_wp2_with fail
            have c2 := del_st ht n k
            rw [HC.out] at c2
            refine c2.mono ?_
            clear c2
            rintro e w2 ⟨rfl, t2, f2⟩
            have g2 := hb.trans f2
            have HG := hid (one_get A1.out A2.out A3.out (some (⟨2, k, 0⟩ : Ch)) hok2)
            have HE := hid (one_end A1.out A2.out A3.out (some (⟨2, k, 0⟩ : Ch)) hok2)
            have d1 : (wantV ((some (⟨2, k, 0⟩ : Ch))) == wantV ((some (⟨2, k, 0⟩ : Ch)))) = true := by simp
            have d2 : (wantB ((some (⟨2, k, 0⟩ : Ch))) == wantB ((some (⟨2, k, 0⟩ : Ch)))) = true := by simp
            have c3 := get_st t2 n k
            rw [HG.out] at c3
            rw [show wantV (some (⟨2, k, 0⟩ : Ch)) = 0 from rfl, show wantB (some (⟨2, k, 0⟩ : Ch)) = false from rfl] at c3 HE
            clear d1 d2
            go_wp2_with fail
            refine c3.mono ?_
            clear c3
            rintro e w3 ⟨rfl, t3, f3⟩
            have g3 := (g2).trans f3
            go_wp2_with fail
            have c4 := prepare_st t3 n
            rw [HE.out.1] at c4
            refine c4.mono ?_
            clear c4
            rintro e w4 ⟨A4, c4, rfl, _, t4, f4⟩
            have g4 := g3.trans f4
            have hle : ((((oneS k n ((some (⟨2, k, 0⟩ : Ch)))).get n k).2.prepare n).1.1.length : Int) ≤ 1 := by have := HE.out.2.1; omega
            generalize (((oneS k n ((some (⟨2, k, 0⟩ : Ch)))).get n k).2.prepare n).1.1.length = nl at *
            go_wp2_with fail
            refine (commit_st t4 n).mono ?_
            rintro e w5 ⟨rfl, t5, f5⟩
            have g5 := g4.trans f5
            go_wp2_with fail
            have c6 := value_st t5 k
            rw [HE.out.2.2] at c6
            refine c6.mono ?_
            clear c6
            rintro e w6 ⟨rfl, t6, f6⟩
            have g6 := g5.trans (f6.mono g5.size)
            go_wp2_with fail
            refine (alive_any _).mono ?_
            rintro e w7 ⟨rfl, f7⟩
            go_wp2_with fail
            go_ret
            exact ⟨rfl, g6.trans (f7.mono g6.size)⟩
  · have hll : (100 : Int) < l.length := by omega
    go_wp2_with fail
    refine (alive_any _).mono ?_
    rintro e w3 ⟨rfl, f3⟩
    go_wp2_with fail
    go_ret
    exact ⟨rfl, f1.trans (f3.mono f1.size)⟩
end Go.Proofs.Ytekebjcknhjceaa
