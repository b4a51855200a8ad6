/- Walks of trothref12: Place, Clash, Holds. Conditions: the table's block and row are given. -/
import Derived.Test.YtekebjcknhjceaaKvL6
namespace Go.Mine
set_option linter.unusedVariables false
set_option linter.unusedSimpArgs false
abbrev Lk := (Int × Int) × Bool
def placeN (A : LTab) (o k : Int) : Option Nat := A.findIdx? (fun e => e.1.1 == k && e.1.2 == o)
def placeA (A : LTab) (o k : Int) : Int := match placeN A o k with | some i => i | none => -1
def clashA (A : LTab) : Bool := A.any (fun x => A.any (fun y => x.1.1 == y.1.1 && x.1.2 != y.1.2 && x.2))
end Go.Mine
namespace Go.Proofs.Ytekebjcknhjceaa
open Go.RowKit Go.Mine Go.Proofs.YtekebjcknhjceaaW.PrintWords
set_option linter.unusedVariables false
set_option linter.unusedSimpArgs false
theorem drewN_two (w : World) (a b : Nat) : (w.drewN a).drewN b = w.drewN (a + b) := by simp [World.drewN, Nat.add_comm, Nat.add_left_comm, Nat.add_assoc]
def encLk (x : Lk) : List Value := [.int .i64 x.1.1, .int .i64 x.1.2, .bool x.2]
def klk : Kd Lk where
  sz := 3
  E := []
  K := fun _ x cs => cs = encLk x
  M := fun _ _ _ x cs => cs = encLk x
  K_len := fun h => by rw [h]; rfl
  K_one := fun h u hu => by rw [h] at hu; simp [encLk] at hu; rcases hu with rfl | rfl | rfl <;> rfl
  K_below := fun _ h => h
  K_of_M := fun h => h
  M_mono := fun _ h => h
  M_bound := fun h => h
  M_move := fun _ h => h
  M_lower := fun _ h => h
abbrev LkRow (w : World) (v : Value) (l : LTab) : Prop := klk.R 106 w 0 (fun _ => True) v l
theorem LkRow.move {w w1 : World} {v : Value} {l : LTab} (h : LkRow w v l) (hm : ∀ k, v.ownBlock = some k → w1.heap[k]? = w.heap[k]?) : LkRow w1 v l := by
  obtain ⟨h0, inner, ho, hr⟩ := h
  exact ⟨h0, inner, own_move ho hm, hr⟩
theorem LkRow.lt {w : World} {v : Value} {l : LTab} (h : LkRow w v l) (k : Nat) (hk : v.ownBlock = some k) : k < w.heap.size := by
  obtain ⟨h0, inner, ho, hr⟩ := h
  obtain ⟨cells, hc⟩ := own_typed ho k hk
  exact (Array.getElem?_eq_some_iff.1 hc).1
theorem LkRow.ne {w : World} {v u : Value} {l : LTab} (h : LkRow w v l) {b : Nat} (hb : w.heap[b]? = some (.cells #[u] 47 (0, 0))) : v.ownBlock ≠ some b := by
  intro hk
  obtain ⟨h0, inner, ho, hr⟩ := h
  obtain ⟨cells, hc⟩ := own_typed ho b hk
  rw [hb] at hc
  simp at hc
def LkAt (w : World) (A : Option Addr) (l : LTab) : Prop :=
  ∀ i x, l[i]? = some x → ∃ b off, A = some ⟨b, off, none⟩ ∧ b < w.heap.size ∧ ∀ j v, (encLk x)[j]? = some v → w.cell? ⟨b, off + i * 3 + j, none⟩ = some v
theorem LkRow.at_ {w : World} {v : Value} {l : LTab} (h : LkRow w v l) : ∃ A c, v = .slice A l.length c ∧ l.length ≤ c ∧ LkAt w A l := by
  obtain ⟨h0, inner, ho, hr⟩ := h
  rcases ho.2 with ⟨hv, h0⟩ | ⟨g, cap, cur, hv, hg, hh, h1, h2, h3, h4⟩
  · have hl : l = [] := List.eq_nil_of_length_eq_zero h0
    subst hl
    exact ⟨none, 0, hv, Nat.le_refl _, fun i x hx => by simp at hx⟩
  · refine ⟨_, cap, hv, h1, fun i x hx => ⟨g, 0, rfl, (Array.getElem?_eq_some_iff.1 hh).1, fun j u hu => ?_⟩⟩
    have h5 : (inner.drop (i * 3)).take 3 = encLk x := hr.2 i x hx
    have hj : j < 3 := by have := (List.getElem?_eq_some_iff.1 hu).1; simpa [encLk] using this
    have h6 : inner[i * 3 + j]? = some u := by
      rw [← h5, List.getElem?_take_of_lt hj, List.getElem?_drop] at hu
      exact hu
    have := ho.cells (g := g) (by rw [hv]; simp [Value.ownBlock]) _ u h6
    rw [add_plain] at this
    rw [Nat.zero_add]
    exact this
/-- The document's table at a block. -/
def RT (w : World) (b1 : Nat) (v : Value) (A : LTab) : Prop := w.heap[b1]? = some (.cells #[v] 47 (0, 0)) ∧ LkRow w v A
theorem RT.lt {w : World} {b1 : Nat} {v : Value} {A : LTab} (h : RT w b1 v A) : b1 < w.heap.size := (Array.getElem?_eq_some_iff.1 h.1).1
theorem RT.cell {w : World} {b1 : Nat} {v : Value} {A : LTab} (h : RT w b1 v A) : w.cell? ⟨b1, 0, none⟩ = some v := by rw [cell_of_row w b1 0 _ _ _ h.1]; rfl
theorem RT.below {w w' : World} {b1 : Nat} {v : Value} {A : LTab} (h : RT w b1 v A) (hb : Below w.heap.size w w') : RT w' b1 v A :=
  ⟨(hb.block _ h.lt).trans h.1, h.2.move (fun k hk => hb.block _ (h.2.lt k hk))⟩

set_option maxRecDepth 100000 in
set_option maxHeartbeats 2000000 in
theorem place_any {w : World} {b1 : Nat} {v : Value} {A : LTab} (h : RT w b1 v A) (hn : A.length ≤ 1000000) (o k : Int) :
    Calls Try.prog 52 #[.pointer (some ⟨b1, 0, none⟩), .int .i64 o, .int .i64 k] w fun e w' => e = .returned (.int .i64 (placeA A o k)) ∧ w = w' := by
  have hc := h.cell
  obtain ⟨A', c, rfl, hAc, hat⟩ := h.2.at_
  have HAT := hid hat
  clear hat h
  go_enter Try.func52, Try.ntmps52
  go_wp2_with fail
  go_loopg [7] (A.length + 1) (fun m v wr => ∃ i : Nat, v = .int .i64 i ∧ i ≤ A.length ∧ m = A.length + 1 - i ∧ wr = w ∧ ∀ j x, j < i → A[j]? = some x → (x.1.1 == k && x.1.2 == o) = false)
  case atStart => exact ⟨0, rfl, Nat.zero_le _, rfl, rfl, fun j x hj => by omega⟩
  case round =>
    obtain ⟨i, rfl, hi, hm, hw, hno⟩ := hrel
    subst hw
    have HN := hid hm
    have HNO := hid hno
    clear hm hno
    by_cases h1 : i < A.length
    · obtain ⟨x, hx⟩ : ∃ x, A[i]? = some x := ⟨_, List.getElem?_eq_getElem h1⟩
      obtain ⟨b, off, rfl, hb, hcc⟩ := HAT.out i x hx
      have k0 : wr.cell? ⟨b, off + i * 3, none⟩ = some (.int .i64 x.1.1) := hcc 0 _ rfl
      have k1 := hcc 1 _ rfl
      have HX := hid hx
      clear hcc hx
      cases q1 : (x.1.1 == k)
      · go_wp2_with fail
        go_roundg (A.length + 1 - (i + 1))
        case measure => rw [HN.out]; omega
        case rel =>
          refine ⟨i + 1, by go_num, by omega, rfl, rfl, fun j y hj hy => ?_⟩
          rcases Nat.lt_succ_iff_lt_or_eq.1 hj with hj | rfl
          · exact HNO.out j y hj hy
          · rw [HX.out] at hy; cases hy; rw [q1]; rfl
      · cases q2 : (x.1.2 == o)
        · go_wp2_with fail
          go_roundg (A.length + 1 - (i + 1))
          case measure => rw [HN.out]; omega
          case rel =>
            refine ⟨i + 1, by go_num, by omega, rfl, rfl, fun j y hj hy => ?_⟩
            rcases Nat.lt_succ_iff_lt_or_eq.1 hj with hj | rfl
            · exact HNO.out j y hj hy
            · rw [HX.out] at hy; cases hy; rw [q1, q2]; rfl
        · have hp : placeA A o k = i := by
            have : placeN A o k = some i := by
              unfold placeN
              rw [List.findIdx?_eq_some_iff_getElem]
              obtain ⟨hi2, he⟩ := List.getElem?_eq_some_iff.1 HX.out
              refine ⟨hi2, by rw [he, q1, q2]; rfl, fun j hj => ?_⟩
              rw [HNO.out j _ hj (List.getElem?_eq_getElem (by omega))]
              decide
            unfold placeA
            rw [this]
          have HP := hid hp
          clear hp
          go_wp2_with fail
          go_ret
          exact ⟨by rw [HP.out]; rfl, rfl⟩
    · have hp : placeA A o k = -1 := by
        have : placeN A o k = none := by
          unfold placeN
          rw [List.findIdx?_eq_none_iff]
          intro x hx
          obtain ⟨j, hj, rfl⟩ := List.mem_iff_getElem.1 hx
          exact HNO.out j _ (by omega) (List.getElem?_eq_getElem hj)
        unfold placeA
        rw [this]
      have HP := hid hp
      clear hp
      go_wp2_with fail
      go_ret
      exact ⟨by rw [HP.out]; rfl, rfl⟩

set_option maxRecDepth 100000 in
set_option maxHeartbeats 2000000 in
theorem clash_ref {w : World} {b1 : Nat} {v : Value} {A : LTab} (h : RT w b1 v A) (hn : A.length ≤ 1000000) :
    Calls Try.prog 53 #[.pointer (some ⟨b1, 0, none⟩)] w fun e w' => e = .returned (.bool (clashA A)) ∧ ∃ q, w' = w.drewN q := by
  have hc := h.cell
  obtain ⟨A', c, rfl, hAc, hat⟩ := h.2.at_
  have HAT := hid hat
  clear hat h
  go_enter Try.func53, Try.ntmps53
  go_wp2_with fail
  go_loopg [3] (A.length + 1) (fun m v wr => ∃ i : Nat, v = .int .i64 i ∧ i ≤ A.length ∧ m = A.length + 1 - i ∧ (∃ q, wr = w.drewN q) ∧ ∀ j x, j < i → A[j]? = some x → A.any (fun y => x.1.1 == y.1.1 && x.1.2 != y.1.2 && x.2) = false)
  case atStart => exact ⟨0, rfl, Nat.zero_le _, rfl, ⟨0, rfl⟩, fun j x hj => by omega⟩
  case round =>
    obtain ⟨i, rfl, hi, hm, ⟨q, hq⟩, hno⟩ := hrel
    subst hq
    have HN := hid hm
    have HNO := hid hno
    clear hm hno
    by_cases h1 : i < A.length
    · obtain ⟨x, hx⟩ : ∃ x, A[i]? = some x := ⟨_, List.getElem?_eq_getElem h1⟩
      obtain ⟨b, off, rfl, hb, hcc⟩ := HAT.out i x hx
      have x0 : w.cell? ⟨b, off + i * 3, none⟩ = some (.int .i64 x.1.1) := hcc 0 _ rfl
      have x1 : w.cell? ⟨b, off + i * 3 + 1, none⟩ = some (.int .i64 x.1.2) := hcc 1 _ rfl
      have x2 : w.cell? ⟨b, off + i * 3 + 2, none⟩ = some (.bool x.2) := hcc 2 _ rfl
      have HX := hid hx
      clear hcc hx
      go_wp2_with fail
      go_loopg [4] (A.length + 1) (fun m v wq => ∃ j : Nat, v = .int .i64 j ∧ j ≤ A.length ∧ m = A.length + 1 - j ∧ (∃ q, wq = w.drewN q) ∧ ∀ k y, k < j → A[k]? = some y → (x.1.1 == y.1.1 && x.1.2 != y.1.2 && x.2) = false)
      case atStart => exact ⟨0, rfl, Nat.zero_le _, rfl, ⟨q, rfl⟩, fun j x hj => by omega⟩
      case round =>
        obtain ⟨j, rfl, hj, hm, ⟨q2, hq2⟩, hno2⟩ := hrel
        subst hq2
        have HM := hid hm
        have HNO2 := hid hno2
        clear hm hno2
        by_cases h2 : j < A.length
        · obtain ⟨y, hy⟩ : ∃ y, A[j]? = some y := ⟨_, List.getElem?_eq_getElem h2⟩
          obtain ⟨b', off', he, _, hcc⟩ := HAT.out j y hy
          cases he
          have y0 : w.cell? ⟨b, off + j * 3, none⟩ = some (.int .i64 y.1.1) := hcc 0 _ rfl
          have y1 : w.cell? ⟨b, off + j * 3 + 1, none⟩ = some (.int .i64 y.1.2) := hcc 1 _ rfl
          have HY := hid hy
          clear hcc hy
          cases q1 : (x.1.1 == y.1.1)
          · go_wp2_with fail
            go_quiet (fail)
            go_wp2_with fail
            go_roundg (A.length + 1 - (j + 1))
            case measure => rw [HM.out]; omega
            case rel =>
              refine ⟨j + 1, by go_num, by omega, rfl, ⟨_, rfl⟩, fun k z hk hz => ?_⟩
              rcases Nat.lt_succ_iff_lt_or_eq.1 hk with hk | rfl
              · exact HNO2.out k z hk hz
              · rw [HY.out] at hz; cases hz; simp [q1]
          · cases q2 : (x.1.2 != y.1.2)
            · go_wp2_with fail
              go_quiet (fail)
              go_wp2_with fail
              go_roundg (A.length + 1 - (j + 1))
              case measure => rw [HM.out]; omega
              case rel =>
                refine ⟨j + 1, by go_num, by omega, rfl, ⟨_, rfl⟩, fun k z hk hz => ?_⟩
                rcases Nat.lt_succ_iff_lt_or_eq.1 hk with hk | rfl
                · exact HNO2.out k z hk hz
                · rw [HY.out] at hz; cases hz; simp [q2]
            · cases q3 : x.2
              · go_wp2_with fail
                go_quiet (fail)
                go_wp2_with fail
                go_roundg (A.length + 1 - (j + 1))
                case measure => rw [HM.out]; omega
                case rel =>
                  refine ⟨j + 1, by go_num, by omega, rfl, ⟨_, rfl⟩, fun k z hk hz => ?_⟩
                  rcases Nat.lt_succ_iff_lt_or_eq.1 hk with hk | rfl
                  · exact HNO2.out k z hk hz
                  · rw [HY.out] at hz; cases hz; simp [q3]
              · have hcl : clashA A = true := by
                  unfold clashA
                  rw [List.any_eq_true]
                  refine ⟨x, List.mem_of_getElem? HX.out, ?_⟩
                  rw [List.any_eq_true]
                  exact ⟨y, List.mem_of_getElem? HY.out, by rw [q1, q2, q3]; rfl⟩
                have HCL := hid hcl
                clear hcl
                go_wp2_with fail
                go_quiet (fail)
                go_wp2_with fail
                go_ret
                exact ⟨by rw [HCL.out]; rfl, _, by first | rfl | exact drewN_two _ _ _⟩
        · have hji : j = A.length := by omega
          subst hji
          have hrow : A.any (fun y => x.1.1 == y.1.1 && x.1.2 != y.1.2 && x.2) = false := by
            rw [List.any_eq_false]
            intro y hy
            obtain ⟨k, hk, rfl⟩ := List.mem_iff_getElem.1 hy
            rw [HNO2.out k _ hk (List.getElem?_eq_getElem hk)]
            decide
          have HROW := hid hrow
          clear hrow
          go_wp2_with fail
          go_roundg (A.length + 1 - (i + 1))
          case measure => rw [HN.out]; omega
          case rel =>
            refine ⟨i + 1, by go_num, by omega, rfl, ⟨_, rfl⟩, fun k z hk hz => ?_⟩
            rcases Nat.lt_succ_iff_lt_or_eq.1 hk with hk | rfl
            · exact HNO.out k z hk hz
            · rw [HX.out] at hz; cases hz; exact HROW.out
    · have hcl : clashA A = false := by
        unfold clashA
        rw [List.any_eq_false]
        intro x hx
        obtain ⟨k, hk, rfl⟩ := List.mem_iff_getElem.1 hx
        rw [HNO.out k _ (by omega) (List.getElem?_eq_getElem hk)]
        decide
      have HCL := hid hcl
      clear hcl
      go_wp2_with fail
      go_ret
      exact ⟨by rw [HCL.out]; rfl, _, rfl⟩

theorem placeN_some {A : LTab} {o k : Int} {i : Nat} (h : placeN A o k = some i) : ∃ x, A[i]? = some x ∧ x.1 = (k, o) := by
  unfold placeN at h
  rw [List.findIdx?_eq_some_iff_getElem] at h
  obtain ⟨hi, h1, _⟩ := h
  refine ⟨A[i], List.getElem?_eq_getElem hi, ?_⟩
  simp only [Bool.and_eq_true, beq_iff_eq] at h1
  exact Prod.ext h1.1 h1.2
theorem placeN_get {A : LTab} (hA : A.Pairwise (fun x y => x.1 ≠ y.1)) {o k : Int} {i : Nat} {x : Lk} (h : placeN A o k = some i) (hx : A[i]? = some x) : aget (k, o) A = some x.2 := by
  obtain ⟨y, hy, hk⟩ := placeN_some h
  rw [hx] at hy
  cases hy
  refine aget_of_mem hA ?_
  have := List.mem_of_getElem? hx
  rw [← hk]
  exact this
theorem placeN_none {A : LTab} {o k : Int} (h : placeN A o k = none) : aget (k, o) A = none := by
  unfold placeN at h
  rw [List.findIdx?_eq_none_iff] at h
  rw [aget_none]
  intro e he q
  have := h e he
  rw [q] at this
  simp at this
end Go.Proofs.Ytekebjcknhjceaa
