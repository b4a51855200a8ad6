/- Walk of trothref13.Right over a right list: it answers true. Conditions: the slice reads as its list, the list is right. -/
import Derived.Test.YtekebjcknhjceaaKvL5
namespace Go.Mine
theorem RW.apart {l : List Ch} (h : RW l) {i j : Nat} {x y : Ch} (hij : i < j) (hi : l[i]? = some x) (hj : l[j]? = some y) : x.key ≠ y.key := by
  obtain ⟨_, hn⟩ := h
  rw [List.nodup_iff_pairwise_ne, List.pairwise_map, List.pairwise_iff_getElem] at hn
  obtain ⟨h1, rfl⟩ := List.getElem?_eq_some_iff.1 hi
  obtain ⟨h2, rfl⟩ := List.getElem?_eq_some_iff.1 hj
  exact hn i j h1 h2 hij
end Go.Mine
namespace Go.Proofs.Ytekebjcknhjceaa
open Go.RowKit Go.Mine Go.Proofs.YtekebjcknhjceaaW.PrintWords
set_option linter.unusedVariables false
set_option linter.unusedSimpArgs false

set_option maxRecDepth 100000 in
set_option maxHeartbeats 4000000 in
theorem refRight_any (A : Option Addr) (l : List Ch) (c B : Nat) (w : World) (hl : ChAt w B A l) (hB : B ≤ w.heap.size) (hr : RW l) :
    Calls Try.prog 28 #[.slice A l.length c] w fun e w' => e = .returned (.bool true) ∧ Below w.heap.size w w' := by
  have hlen := hr.len
  have HR := hid hr
  clear hr
  go_enter Try.func28, Try.ntmps28
  go_wp2_with fail
  go_loopg [3] (l.length + 1) (fun m v wr => ∃ i : Nat, v = .int .i64 i ∧ i ≤ l.length ∧ m = l.length + 1 - i ∧ Below w.heap.size w wr)
  case atStart => exact ⟨0, rfl, Nat.zero_le _, rfl, Below.refl _ _⟩
  case round =>
    obtain ⟨i, rfl, hi, hm, hb⟩ := hrel
    have HN := hid hm
    clear hm
    by_cases h1 : i < l.length
    · obtain ⟨y, hy⟩ : ∃ y, l[i]? = some y := ⟨_, List.getElem?_eq_getElem h1⟩
      have HY := hid hy
      have hchk := (chOk_iff y).1 (HR.out.1 y (List.mem_of_getElem? hy))
      obtain ⟨hkd, hk0, hk16⟩ := hchk
      have hla := hl.below (hb.mono hB)
      obtain ⟨b, off, rfl, hbb, hcc⟩ := hla i y hy
      have k0 : wr.cell? ⟨b, off + i * 3, none⟩ = some (.int .i64 y.kind) := hcc 0 _ rfl
      have k1 := hcc 1 _ rfl
      have k2 := hcc 2 _ rfl
      have hba0 : Below wr.heap.size wr (wr.alloc (.cells #[.int .i64 y.kind, .int .i64 y.key, .int .u64 y.val] 60)) := (Below.refl _ _).alloc (Nat.le_refl _) _
      have hBr : B ≤ wr.heap.size := Nat.le_trans hB hb.size
      have hla1 := hla.below (hba0.mono hBr)
      have hba := hb.trans (hba0.mono hb.size)
      have e1 : (wr.alloc (.cells #[.int .i64 y.kind, .int .i64 y.key, .int .u64 y.val] 60)).cell? ⟨wr.heap.size, 1, none⟩ = some (.int .i64 y.key) := by
        rw [cell_of_row _ _ 1 _ _ _ (MapKept.heap_alloc wr _).1]; rfl
      have HLA := hid hla1
      have HBA := hid hba
      have HE1 := hid e1
      clear hcc hy hla hla1 hba hba0 e1
      have hok : y.kind = 1 ∨ (y.kind = 2 ∧ y.val = 0) := hkd
      clear hkd
      rcases hok with q | ⟨q, q2⟩
      · rw [q] at k0 HLA HBA HE1
        clear q
        go_wp2_with fail
        generalize wr.alloc (.cells #[.int .i64 1, .int .i64 y.key, .int .u64 y.val] 60) = wb at *
        generalize wr.heap.size = nb at *
        have he1 := HE1.out
        go_loopg [5] (i + 1) (fun m v wq => ∃ j : Nat, v = .int .i64 j ∧ j ≤ i ∧ m = i + 1 - j ∧ ∃ q, wq = wb.drewN q)
        case atStart => exact ⟨0, rfl, Nat.zero_le _, rfl, 0, rfl⟩
        case round =>
          obtain ⟨j, rfl, hj, hm, qn, hq⟩ := hrel
          subst hq
          have HM := hid hm
          clear hm
          by_cases h2 : j < i
          · obtain ⟨z, hz⟩ : ∃ z, l[j]? = some z := ⟨_, List.getElem?_eq_getElem (by omega)⟩
            have hne := HR.out.apart h2 hz HY.out
            obtain ⟨b', off', he, _, hcz⟩ := HLA.out j z hz
            cases he
            have z1 : wb.cell? ⟨b, off + j * 3 + 1, none⟩ = some (.int .i64 z.key) := hcz 1 _ rfl
            have hne' : (z.key == y.key) = false := by simpa using hne
            have hjl : j < l.length := by omega
            clear hcz hz hne
            go_wp2_with fail
            go_quiet (fail)
            go_wp2_with fail
            go_roundg (i + 1 - (j + 1))
            case measure => rw [HM.out]; omega
            case rel => exact ⟨j + 1, by go_num, by omega, rfl, _, rfl⟩
          · have hji : j = i := by omega
            subst hji
            go_wp2_with fail
            go_roundg (l.length + 1 - (j + 1))
            case measure => rw [HN.out]; omega
            case rel => exact ⟨j + 1, by go_num, by omega, rfl, HBA.out.trans (by have := bdN wb qn; exact this.mono HBA.out.size)⟩
      · rw [q, q2] at HLA HBA HE1
        rw [q] at k0
        rw [q2] at k2
        clear q q2
        go_wp2_with fail
        generalize wr.alloc (.cells #[.int .i64 2, .int .i64 y.key, .int .u64 0] 60) = wb at *
        generalize wr.heap.size = nb at *
        have he1 := HE1.out
        go_loopg [5] (i + 1) (fun m v wq => ∃ j : Nat, v = .int .i64 j ∧ j ≤ i ∧ m = i + 1 - j ∧ ∃ q, wq = wb.drewN q)
        case atStart => exact ⟨0, rfl, Nat.zero_le _, rfl, 0, rfl⟩
        case round =>
          obtain ⟨j, rfl, hj, hm, qn, hq⟩ := hrel
          subst hq
          have HM := hid hm
          clear hm
          by_cases h2 : j < i
          · obtain ⟨z, hz⟩ : ∃ z, l[j]? = some z := ⟨_, List.getElem?_eq_getElem (by omega)⟩
            have hne := HR.out.apart h2 hz HY.out
            obtain ⟨b', off', he, _, hcz⟩ := HLA.out j z hz
            cases he
            have z1 : wb.cell? ⟨b, off + j * 3 + 1, none⟩ = some (.int .i64 z.key) := hcz 1 _ rfl
            have hne' : (z.key == y.key) = false := by simpa using hne
            have hjl : j < l.length := by omega
            clear hcz hz hne
            go_wp2_with fail
            go_quiet (fail)
            go_wp2_with fail
            go_roundg (i + 1 - (j + 1))
            case measure => rw [HM.out]; omega
            case rel => exact ⟨j + 1, by go_num, by omega, rfl, _, rfl⟩
          · have hji : j = i := by omega
            subst hji
            go_wp2_with fail
            go_roundg (l.length + 1 - (j + 1))
            case measure => rw [HN.out]; omega
            case rel => exact ⟨j + 1, by go_num, by omega, rfl, HBA.out.trans (by have := bdN wb qn; exact this.mono HBA.out.size)⟩
    · go_wp2_with fail
      go_ret
      exact ⟨rfl, hb⟩
end Go.Proofs.Ytekebjcknhjceaa
