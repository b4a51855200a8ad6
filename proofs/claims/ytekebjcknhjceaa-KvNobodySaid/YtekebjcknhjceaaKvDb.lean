/- Walk of trothref13.Right over any list: it answers rightL. Conditions: the slice reads as its list. -/
import Derived.Test.YtekebjcknhjceaaKvN
import Derived.Test.YtekebjcknhjceaaKvL6
namespace Go.Mine
theorem seen_step {l : List Ch} {i : Nat} {y : Ch} {sn : List Int} (h : ∀ k : Int, sn.contains k = true ↔ ∃ j z, j < i ∧ l[j]? = some z ∧ z.key = k) (hy : l[i]? = some y) : ∀ k : Int, (y.key :: sn).contains k = true ↔ ∃ j z, j < i + 1 ∧ l[j]? = some z ∧ z.key = k := by
  intro k
  have h1 : (y.key :: sn).contains k = true ↔ (k = y.key ∨ sn.contains k = true) := by simp
  rw [h1, h k]
  constructor
  · rintro (rfl | ⟨j, z, hj, hz, he⟩)
    · exact ⟨i, y, by omega, hy, rfl⟩
    · exact ⟨j, z, by omega, hz, he⟩
  · rintro ⟨j, z, hj, hz, he⟩
    rcases Nat.lt_succ_iff_lt_or_eq.1 hj with q | q
    · exact .inr ⟨j, z, q, hz, he⟩
    · subst q
      rw [hy] at hz
      cases hz
      exact .inl he.symm
end Go.Mine
namespace Go.Proofs.Ytekebjcknhjceaa
open Go.RowKit Go.Mine Go.Proofs.YtekebjcknhjceaaW.PrintWords
set_option linter.unusedVariables false
set_option linter.unusedSimpArgs false

set_option maxRecDepth 100000 in
set_option maxHeartbeats 4000000 in
theorem drright_any (A : Option Addr) (l : List Ch) (c B : Nat) (w : World) (hl : ChAt w B A l) (hB : B ≤ w.heap.size) (hlen : l.length ≤ 1000000) :
    Calls Try.prog 28 #[.slice A l.length c] w fun e w' => e = .returned (.bool (rightL l [])) ∧ Below w.heap.size w w' := by
  go_enter Try.func28, Try.ntmps28
  go_wp2_with fail
  go_loopg [3] (l.length + 1) (fun m v wr => ∃ (i : Nat) (sn : List Int), v = .int .i64 i ∧ i ≤ l.length ∧ m = l.length + 1 - i ∧ rightL l [] = rightL (l.drop i) sn ∧ (∀ k : Int, sn.contains k = true ↔ ∃ j z, j < i ∧ l[j]? = some z ∧ z.key = k) ∧ Below w.heap.size w wr)
  case atStart => exact ⟨0, [], rfl, Nat.zero_le _, rfl, rfl, fun k => ⟨fun q => by simp at q, fun ⟨j, z, q, _⟩ => by omega⟩, Below.refl _ _⟩
  case round =>
    obtain ⟨i, sn, rfl, hi, hm, hr, hsn, hb⟩ := hrel
    have HN := hid hm
    have HR := hid hr
    have HSN := hid hsn
    clear hm hr hsn
    by_cases h1 : i < l.length
    · obtain ⟨⟨kd, ky, vl⟩, hy⟩ : ∃ y, l[i]? = some y := ⟨_, List.getElem?_eq_getElem h1⟩
      have HY := hid hy
      have HST := hid (HR.out.trans (right_step (sn := sn) hy))
      have hla := hl.below (hb.mono hB)
      obtain ⟨b, off, rfl, hbb, hcc⟩ := hla i _ hy
      have k0 : wr.cell? ⟨b, off + i * 3, none⟩ = some (.int .i64 kd) := hcc 0 _ rfl
      have k1 := hcc 1 _ rfl
      have k2 := hcc 2 _ rfl
      have hba0 : Below wr.heap.size wr (wr.alloc (.cells #[.int .i64 kd, .int .i64 ky, .int .u64 vl] 60)) := (Below.refl _ _).alloc (Nat.le_refl _) _
      have hBr : B ≤ wr.heap.size := Nat.le_trans hB hb.size
      have hla1 := hla.below (hba0.mono hBr)
      have hba := hb.trans (hba0.mono hb.size)
      have e1 : (wr.alloc (.cells #[.int .i64 kd, .int .i64 ky, .int .u64 vl] 60)).cell? ⟨wr.heap.size, 1, none⟩ = some (.int .i64 ky) := by
        rw [cell_of_row _ _ 1 _ _ _ (MapKept.heap_alloc wr _).1]; rfl
      have HLA := hid hla1
      have HBA := hid hba
      have HE1 := hid e1
      have hfalse : chOk ⟨kd, ky, vl⟩ = false ∨ sn.contains ky = true → rightL l [] = false := by
        intro q
        rw [HST.out]
        rcases q with q | q
        · rw [q]; rfl
        · rw [q]; simp
      have HF := hid hfalse
      clear hcc hy hla hla1 hba hba0 e1 hfalse
      by_cases g0 : ky < 0
      · have hbad : chOk ⟨kd, ky, vl⟩ = false := by
          cases hq : chOk ⟨kd, ky, vl⟩ with
          | false => rfl
          | true => have q0 := (chOk_iff ⟨kd, ky, vl⟩).1 hq; dsimp only at q0; omega
        have HBAD := hid (HF.out (.inl hbad))
        clear hbad
        go_wp2_with fail
        go_ret
        exact ⟨by rw [HBAD.out]; rfl, HBA.out⟩
      · by_cases g1 : 15 < ky
        · have hbad : chOk ⟨kd, ky, vl⟩ = false := by
            cases hq : chOk ⟨kd, ky, vl⟩ with
            | false => rfl
            | true => have q0 := (chOk_iff ⟨kd, ky, vl⟩).1 hq; dsimp only at q0; omega
          have HBAD := hid (HF.out (.inl hbad))
          clear hbad
          go_wp2_with fail
          go_ret
          exact ⟨by rw [HBAD.out]; rfl, HBA.out⟩
        · by_cases g2 : kd < 1
          · have hbad : chOk ⟨kd, ky, vl⟩ = false := by
              cases hq : chOk ⟨kd, ky, vl⟩ with
              | false => rfl
              | true => have q0 := (chOk_iff ⟨kd, ky, vl⟩).1 hq; dsimp only at q0; omega
            have HBAD := hid (HF.out (.inl hbad))
            clear hbad
            go_wp2_with fail
            go_ret
            exact ⟨by rw [HBAD.out]; rfl, HBA.out⟩
          · by_cases g3 : 2 < kd
            · have hbad : chOk ⟨kd, ky, vl⟩ = false := by
                cases hq : chOk ⟨kd, ky, vl⟩ with
                | false => rfl
                | true => have q0 := (chOk_iff ⟨kd, ky, vl⟩).1 hq; dsimp only at q0; omega
              have HBAD := hid (HF.out (.inl hbad))
              clear hbad
              go_wp2_with fail
              go_ret
              exact ⟨by rw [HBAD.out]; rfl, HBA.out⟩
            · have hkd : kd = 1 ∨ kd = 2 := by omega
              rcases hkd with rfl | rfl
              · have HCHK := hid ((chOk_iff ⟨1, ky, vl⟩).2 ⟨.inl rfl, by dsimp only; omega, by dsimp only; omega⟩)
                go_wp2_with fail
                generalize hwb : wr.alloc (.cells #[.int .i64 1, .int .i64 ky, .int .u64 vl] 60) = wb at *
                generalize wr.heap.size = nb at *
                have he1 := HE1.out
                clear hwb
                go_loopg [5] (i + 1) (fun m v wq => ∃ j : Nat, v = .int .i64 j ∧ j ≤ i ∧ m = i + 1 - j ∧ (∃ q, wq = wb.drewN q) ∧ ∀ j' z, j' < j → l[j']? = some z → z.key ≠ ky)
                case atStart => exact ⟨0, rfl, Nat.zero_le _, rfl, ⟨0, rfl⟩, fun _ _ q => by omega⟩
                case round =>
                  obtain ⟨j, rfl, hj, hm, ⟨qn, hq⟩, hno⟩ := hrel
                  subst hq
                  have HM := hid hm
                  have HNO := hid hno
                  clear hm hno
                  by_cases h2 : j < i
                  · obtain ⟨z, hz⟩ : ∃ z, l[j]? = some z := ⟨_, List.getElem?_eq_getElem (by omega)⟩
                    obtain ⟨b', off', he, _, hcz⟩ := HLA.out j z hz
                    cases he
                    have z1 : wb.cell? ⟨b, off + j * 3 + 1, none⟩ = some (.int .i64 z.key) := hcz 1 _ rfl
                    have hjl : j < l.length := by omega
                    have HZ := hid hz
                    clear hcz hz
                    cases hne : (z.key == ky)
                    · have HNE := hid hne
                      go_wp2_with fail
                      go_quiet (fail)
                      go_wp2_with fail
                      go_roundg (i + 1 - (j + 1))
                      case measure => rw [HM.out]; omega
                      case rel => exact ⟨j + 1, by go_num, by omega, rfl, ⟨_, rfl⟩, fun j' z' hj' hz' => by
                        rcases Nat.lt_succ_iff_lt_or_eq.1 hj' with q | q
                        · exact HNO.out j' z' q hz'
                        · subst q
                          rw [HZ.out] at hz'
                          cases hz'
                          simpa using HNE.out⟩
                    · have hin : sn.contains ky = true := (HSN.out _).2 ⟨j, z, h2, HZ.out, by simpa using hne⟩
                      have HBAD := hid (HF.out (.inr hin))
                      clear hin
                      go_wp2_with fail
                      go_quiet (fail)
                      go_wp2_with fail
                      go_ret
                      exact ⟨by rw [HBAD.out]; rfl, HBA.out.trans (((bdN wb qn).mono HBA.out.size).trans ((bdN (wb.drewN qn) _).mono (Nat.le_trans HBA.out.size (bdN wb qn).size)))⟩
                  · have hji : j = i := by omega
                    subst hji
                    have hnew : rightL l [] = rightL (l.drop (j + 1)) (ky :: sn) := by
                      rw [HST.out, HCHK.out]
                      have hq : sn.contains ky = false := by
                        cases hc : sn.contains ky with
                        | false => rfl
                        | true =>
                          obtain ⟨j', z, hj', hz, he⟩ := (HSN.out _).1 hc
                          exact absurd he (HNO.out j' z hj' hz)
                      rw [hq]
                      rfl
                    have HNEW := hid hnew
                    clear hnew
                    go_wp2_with fail
                    go_roundg (l.length + 1 - (j + 1))
                    case measure => rw [HN.out]; omega
                    case rel => exact ⟨j + 1, ky :: sn, by go_num, by omega, rfl, HNEW.out, seen_step HSN.out HY.out, HBA.out.trans (by have := bdN wb qn; exact this.mono HBA.out.size)⟩
              · by_cases g4 : vl = 0
                · subst g4
                  have HCHK := hid ((chOk_iff ⟨2, ky, 0⟩).2 ⟨.inr ⟨rfl, rfl⟩, by dsimp only; omega, by dsimp only; omega⟩)
                  go_wp2_with fail
                  generalize hwb : wr.alloc (.cells #[.int .i64 2, .int .i64 ky, .int .u64 0] 60) = wb at *
                  generalize wr.heap.size = nb at *
                  have he1 := HE1.out
                  clear hwb
                  go_loopg [5] (i + 1) (fun m v wq => ∃ j : Nat, v = .int .i64 j ∧ j ≤ i ∧ m = i + 1 - j ∧ (∃ q, wq = wb.drewN q) ∧ ∀ j' z, j' < j → l[j']? = some z → z.key ≠ ky)
                  case atStart => exact ⟨0, rfl, Nat.zero_le _, rfl, ⟨0, rfl⟩, fun _ _ q => by omega⟩
                  case round =>
                    obtain ⟨j, rfl, hj, hm, ⟨qn, hq⟩, hno⟩ := hrel
                    subst hq
                    have HM := hid hm
                    have HNO := hid hno
                    clear hm hno
                    by_cases h2 : j < i
                    · obtain ⟨z, hz⟩ : ∃ z, l[j]? = some z := ⟨_, List.getElem?_eq_getElem (by omega)⟩
                      obtain ⟨b', off', he, _, hcz⟩ := HLA.out j z hz
                      cases he
                      have z1 : wb.cell? ⟨b, off + j * 3 + 1, none⟩ = some (.int .i64 z.key) := hcz 1 _ rfl
                      have hjl : j < l.length := by omega
                      have HZ := hid hz
                      clear hcz hz
                      cases hne : (z.key == ky)
                      · have HNE := hid hne
                        go_wp2_with fail
                        go_quiet (fail)
                        go_wp2_with fail
                        go_roundg (i + 1 - (j + 1))
                        case measure => rw [HM.out]; omega
                        case rel => exact ⟨j + 1, by go_num, by omega, rfl, ⟨_, rfl⟩, fun j' z' hj' hz' => by
                          rcases Nat.lt_succ_iff_lt_or_eq.1 hj' with q | q
                          · exact HNO.out j' z' q hz'
                          · subst q
                            rw [HZ.out] at hz'
                            cases hz'
                            simpa using HNE.out⟩
                      · have hin : sn.contains ky = true := (HSN.out _).2 ⟨j, z, h2, HZ.out, by simpa using hne⟩
                        have HBAD := hid (HF.out (.inr hin))
                        clear hin
                        go_wp2_with fail
                        go_quiet (fail)
                        go_wp2_with fail
                        go_ret
                        exact ⟨by rw [HBAD.out]; rfl, HBA.out.trans (((bdN wb qn).mono HBA.out.size).trans ((bdN (wb.drewN qn) _).mono (Nat.le_trans HBA.out.size (bdN wb qn).size)))⟩
                    · have hji : j = i := by omega
                      subst hji
                      have hnew : rightL l [] = rightL (l.drop (j + 1)) (ky :: sn) := by
                        rw [HST.out, HCHK.out]
                        have hq : sn.contains ky = false := by
                          cases hc : sn.contains ky with
                          | false => rfl
                          | true =>
                            obtain ⟨j', z, hj', hz, he⟩ := (HSN.out _).1 hc
                            exact absurd he (HNO.out j' z hj' hz)
                        rw [hq]
                        rfl
                      have HNEW := hid hnew
                      clear hnew
                      go_wp2_with fail
                      go_roundg (l.length + 1 - (j + 1))
                      case measure => rw [HN.out]; omega
                      case rel => exact ⟨j + 1, ky :: sn, by go_num, by omega, rfl, HNEW.out, seen_step HSN.out HY.out, HBA.out.trans (by have := bdN wb qn; exact this.mono HBA.out.size)⟩
                · have g5 : (vl == 0) = false := by simpa using g4
                  have hbad : chOk ⟨2, ky, vl⟩ = false := by
                    cases hq : chOk ⟨2, ky, vl⟩ with
                    | false => rfl
                    | true => have q0 := (chOk_iff ⟨2, ky, vl⟩).1 hq; dsimp only at q0; omega
                  have HBAD := hid (HF.out (.inl hbad))
                  clear hbad
                  go_wp2_with fail
                  go_ret
                  exact ⟨by rw [HBAD.out]; rfl, HBA.out⟩
    · have : i = l.length := by omega
      subst this
      have HT : Hid (rightL l [] = true) := hid (by rw [HR.out, List.drop_length]; rfl)
      go_wp2_with fail
      go_ret
      exact ⟨by rw [HT.out]; rfl, hb⟩
end Go.Proofs.Ytekebjcknhjceaa
