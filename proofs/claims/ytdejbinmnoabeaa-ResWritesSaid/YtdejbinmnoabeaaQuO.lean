/- Walks of the queue: others, and the function that it hands back. -/
import Derived.Test.YtdejbinmnoabeaaQuL
namespace Go.Proofs.Ytdejbinmnoabeaa.Q
variable {Zz : QZ}
open Go.RowKit Go.Mine Go.Shelf Go.Proofs.YtdejbinmnoabeaaW.PrintWords
attribute [local go_sem] Oper.semAt_some
set_option linter.unusedVariables false
set_option linter.unusedSimpArgs false
theorem others_any (b : Nat) (n : Int) (w : World) :
    Calls Try.prog 75 #[.pointer (some ⟨b, 34, none⟩), .int .i64 n] w fun e w' => e = .returned (.func (.func 82) #[] #[.pointer (some ⟨w.heap.size, 0, none⟩), .pointer (some ⟨w.heap.size + 1, 0, none⟩)]) ∧
      w' = (w.alloc (.cells #[.pointer (some ⟨b, 34, none⟩)] 104)).alloc (.cells #[.int .i64 n] 3) := by
  go_enter Try.func75, Try.ntmps75
  go_wp2
  go_ret
  exact ⟨rfl, rfl⟩
theorem drewN_two (w : World) (a b : Nat) : ((w.drewN a).drewN b) = w.drewN (a + b) := by
  simp [World.drewN, Nat.add_assoc]
set_option maxRecDepth 100000 in
set_option maxHeartbeats 4000000 in
theorem seq_none (n : Int) (bq bn b l m : Nat) (hm : 1 ≤ m) (W : World) (A : Option Addr) (L : List It) (c : Nat) (hq : W.cell? ⟨bq, 0, none⟩ = some (.pointer (some ⟨b, 34, none⟩))) (hn : W.cell? ⟨bn, 0, none⟩ = some (.int .i64 n)) (hb : W.cell? ⟨b, 34, none⟩ = some (.slice A L.length c)) (hat : RowAt encIt 3 W W.heap.size A L) (hl : L.length ≤ 1000000)
    (hall : ∀ y ∈ L, (y.by_ == n) = true) :
    CallsIn Fence.wide m Try.prog 82 (#[.func (.yield l) #[] #[]] ++ #[.pointer (some ⟨bq, 0, none⟩), .pointer (some ⟨bn, 0, none⟩)]) W fun e W' => (∃ v, e = .returned v) ∧ Below W.heap.size W W' := by
  refine callsIn_wide.2 ?_
  simp only [List.append_toArray, List.cons_append, List.nil_append]
  go_enter Try.func82, Try.ntmps82
  go_wp2_with fail
  go_loopg [10] (L.length + 1) (fun mm v wr => ∃ j : Nat, v = .int .i64 j ∧ j ≤ L.length ∧ mm = L.length + 1 - j ∧ Below W.heap.size W wr)
  case atStart => exact ⟨0, rfl, Nat.zero_le _, rfl, Below.refl _ _⟩
  case round =>
    obtain ⟨j, rfl, hj, hmm, hbl⟩ := hrel
    have HN := hid hmm
    have q1 := (hbl.cell (World.block_lt_of_cell? _ _ hq)).trans hq
    have q2 := (hbl.cell (World.block_lt_of_cell? _ _ hn)).trans hn
    have q3 := (hbl.cell (World.block_lt_of_cell? _ _ hb)).trans hb
    clear hmm
    by_cases h1 : j < L.length
    · obtain ⟨y, hy⟩ : ∃ y, L[j]? = some y := ⟨_, List.getElem?_eq_getElem h1⟩
      obtain ⟨b', off, rfl, hbb, hcc⟩ := (hat.below hbl) j y hy
      have k2 : wr.cell? ⟨b', off + j * 3 + 2, none⟩ = some (.int .i64 y.by_) := hcc 2 _ rfl
      have hyn := hall y (List.mem_of_getElem? hy)
      have hne : (y.by_ != n) = false := by simpa [bne] using hyn
      clear hcc hy
      go_wp2_with fail
      go_quiet (fail)
      go_wp2_with fail
      go_roundg (L.length + 1 - (j + 1))
      case measure => rw [HN.out]; omega
      case rel => exact ⟨j + 1, by go_num, by omega, rfl, hbl.trans ((bdN wr _).mono hbl.size)⟩
    · go_wp2_with fail
      go_end0
      exact ⟨⟨_, rfl⟩, hbl⟩
set_option maxRecDepth 100000 in
set_option maxHeartbeats 4000000 in
theorem seq_first (n : Int) (bq bn b l m : Nat) (hm : 1 ≤ m) (W : World) (g : Nat) (L : List It) (c : Nat) (hq : W.cell? ⟨bq, 0, none⟩ = some (.pointer (some ⟨b, 34, none⟩))) (hn : W.cell? ⟨bn, 0, none⟩ = some (.int .i64 n)) (hb : W.cell? ⟨b, 34, none⟩ = some (.slice (some ⟨g, 0, none⟩) L.length c)) (hat : RowAt encIt 3 W W.heap.size (some ⟨g, 0, none⟩) L) (hl : L.length ≤ 1000000)
    (i : Nat) (x : It) (hx : L[i]? = some x) (hxn : (x.by_ == n) = false) (hpre : ∀ j y, j < i → L[j]? = some y → (y.by_ == n) = true) (R : World → Prop)
    (hY : ∀ W1, Below W.heap.size W W1 → YieldAt Fence.wide (m - 1) Try.prog l #[.pointer (some ⟨g, i * 3, none⟩)] W1 fun e W' => e = .returned (.bool false) ∧ R W') :
    CallsIn Fence.wide m Try.prog 82 (#[.func (.yield l) #[] #[]] ++ #[.pointer (some ⟨bq, 0, none⟩), .pointer (some ⟨bn, 0, none⟩)]) W fun e W'' => (∃ v, e = .returned v) ∧ ∃ W', R W' ∧ Below W'.heap.size W' W'' := by
  have hil := (List.getElem?_eq_some_iff.1 hx).1
  have HX := hid hx
  have HPRE := hid hpre
  have HY := hid hY
  clear hx hpre hY
  refine callsIn_wide.2 ?_
  simp only [List.append_toArray, List.cons_append, List.nil_append]
  go_enter Try.func82, Try.ntmps82
  go_wp2_with fail
  go_loopg [10] (L.length + 1) (fun mm v wr => ∃ j : Nat, v = .int .i64 j ∧ j ≤ i ∧ mm = L.length + 1 - j ∧ Below W.heap.size W wr)
  case atStart => exact ⟨0, rfl, Nat.zero_le _, rfl, Below.refl _ _⟩
  case round =>
    obtain ⟨j, rfl, hj, hmm, hbl⟩ := hrel
    have HN := hid hmm
    have q1 := (hbl.cell (World.block_lt_of_cell? _ _ hq)).trans hq
    have q2 := (hbl.cell (World.block_lt_of_cell? _ _ hn)).trans hn
    have q3 := (hbl.cell (World.block_lt_of_cell? _ _ hb)).trans hb
    clear hmm
    have hjl : j < L.length := by omega
    by_cases h1 : j < i
    · obtain ⟨y, hy⟩ : ∃ y, L[j]? = some y := ⟨_, List.getElem?_eq_getElem hjl⟩
      obtain ⟨b', off, he, hbb, hcc⟩ := (hat.below hbl) j y hy
      cases he
      have k2 : wr.cell? ⟨g, 0 + j * 3 + 2, none⟩ = some (.int .i64 y.by_) := hcc 2 _ rfl
      rw [Nat.zero_add] at k2
      have hyn := HPRE.out j y h1 hy
      have hne : (y.by_ != n) = false := by simpa [bne] using hyn
      clear hcc hy
      go_wp2_with fail
      go_quiet (fail)
      go_wp2_with fail
      go_roundg (L.length + 1 - (j + 1))
      case measure => rw [HN.out]; omega
      case rel => exact ⟨j + 1, by go_num, by omega, rfl, hbl.trans ((bdN wr _).mono hbl.size)⟩
    · have hji : j = i := by omega
      subst hji
      obtain ⟨b', off, he, hbb, hcc⟩ := (hat.below hbl) j x HX.out
      cases he
      have k2 : wr.cell? ⟨g, 0 + j * 3 + 2, none⟩ = some (.int .i64 x.by_) := hcc 2 _ rfl
      rw [Nat.zero_add] at k2
      have hne : (x.by_ != n) = true := by simpa [bne] using hxn
      clear hcc
      go_wp2_with fail
      have hmx : Try.prog.follows .mixedOrders = true := by kernel_rfl
      obtain ⟨fn, tmps, assign, body, hy1, hR⟩ := HY.out wr.drew (hbl.trans ((bd1 wr).mono hbl.size))
      refine (wpIn_wide (n := m)).1 ?_
      gi_region_with_o (refine hR.mono ?_; rintro e W3 ⟨rfl, hR3⟩)
      all_goals
        go_wp2_with fail
        refine bodyPost_ret (results_none rfl _ _ _) rfl ?_
        exact ⟨⟨_, rfl⟩, _, hR3, Below.refl _ _⟩
end Go.Proofs.Ytdejbinmnoabeaa.Q
