/- Walks of the store of keys: right, Restore. Conditions: the store reads as KvAt says; the list is none of the store's blocks. -/
import Derived.Test.YtekebjcknhjceaaKvW6
namespace Go.Proofs.Ytekebjcknhjceaa
open Go.RowKit Go.Mine Go.Proofs.YtekebjcknhjceaaW.PrintWords
open Go.ChangeMaps (setBlock)
set_option linter.unusedVariables false
set_option linter.unusedSimpArgs false

def bcells (sb : List Bool) : Array Value := (sb.map Value.bool).toArray
theorem bcells_get {sb : List Bool} {k : Nat} (h : k < sb.length) : (bcells sb)[k]? = some (.bool (sb.getD k false)) := by
  simp [bcells, List.getD_eq_getElem?_getD, h]
theorem bcells_set (sb : List Bool) (k : Nat) (x : Bool) : (bcells sb).setIfInBounds k (.bool x) = bcells (sb.set k x) := by
  simp [bcells, List.setIfInBounds_toArray, List.map_set]
theorem right_step {l : List Ch} {i : Nat} {y : Ch} {sn : List Int} (hy : l[i]? = some y) : rightL (l.drop i) sn = (chOk y && !sn.contains y.key && rightL (l.drop (i + 1)) (y.key :: sn)) := by
  have h1 := (List.getElem?_eq_some_iff.1 hy).1
  have h2 := (List.getElem?_eq_some_iff.1 hy).2
  rw [List.drop_eq_getElem_cons h1, h2, rightL]

set_option maxRecDepth 100000 in
set_option maxHeartbeats 4000000 in
theorem right_any (A : Option Addr) (l : List Ch) (c B : Nat) (w : World) (hl : ChAt w B A l) (hB : B ≤ w.heap.size) (hn : l.length ≤ 1000000000000) :
    Calls Try.prog 41 #[.slice A l.length c] w fun e w' => e = .returned (.bool (rightL l [])) ∧ Below w.heap.size w w' := by
  go_enter Try.func41, Try.ntmps41
  go_wp2_with fail
  have hbx : (w.alloc (.cells (bcells (List.replicate 16 false)) 63)).heap[w.heap.size]? = some (.cells (bcells (List.replicate 16 false)) 63 (0, 0)) := (MapKept.heap_alloc w _).1
  have hb0 : Below w.heap.size w (w.alloc (.cells (bcells (List.replicate 16 false)) 63)) := (Below.refl _ _).alloc (Nat.le_refl _) _
  go_loopg [8] (l.length + 1) (fun m v wr => ∃ (i : Nat) (sb : List Bool) (sn : List Int), v = .int .i64 i ∧ i ≤ l.length ∧ m = l.length + 1 - i ∧ rightL l [] = rightL (l.drop i) sn ∧ sb.length = 16 ∧ (∀ k : Nat, k < 16 → sb.getD k false = sn.contains (k : Int)) ∧ wr.heap[w.heap.size]? = some (.cells (bcells sb) 63 (0, 0)) ∧ Below w.heap.size w wr)
  case atStart => exact ⟨0, List.replicate 16 false, [], rfl, Nat.zero_le _, rfl, rfl, rfl, fun k hk => (by rw [List.getD_eq_getElem?_getD, List.getElem?_replicate, if_pos hk]; rfl), hbx, hb0⟩
  case round =>
    obtain ⟨i, sb, sn, rfl, hi, hm, hr, hsl, hsn, hx, hb⟩ := hrel
    have HN := hid hm
    have HSN := hid hsn
    have HX := hid hx
    have HR := hid hr
    clear hm hsn hx hr hbx hb0
    by_cases h1 : i < l.length
    · obtain ⟨y, hy⟩ : ∃ y, l[i]? = some y := ⟨_, List.getElem?_eq_getElem h1⟩
      obtain ⟨b, off, rfl, hbb, hcc⟩ := (hl.below (hb.mono hB)) i y hy
      have k0 : wr.cell? ⟨b, off + i * 3, none⟩ = some (.int .i64 y.kind) := hcc 0 _ rfl
      have k1 := hcc 1 _ rfl
      have k2 := hcc 2 _ rfl
      have hst := right_step (sn := sn) hy
      have HST := hid (HR.out.trans hst)
      clear hcc hy hst hl
      have hba : Below w.heap.size w (wr.alloc (.cells #[.int .i64 y.kind, .int .i64 y.key, .int .u64 y.val] 60)) := hb.alloc hb.size _
      have hxa : (wr.alloc (.cells #[.int .i64 y.kind, .int .i64 y.key, .int .u64 y.val] 60)).heap[w.heap.size]? = some (.cells (bcells sb) 63 (0, 0)) := blk_alloc HX.out _
      have HXA := hid hxa
      have hfalse : chOk y = false ∨ sn.contains y.key = true → rightL l [] = false := by
        intro q
        rw [HST.out]
        rcases q with q | q
        · rw [q]; rfl
        · rw [q]; simp
      have HF := hid hfalse
      clear hxa hfalse
      by_cases hkd : y.kind = 1 ∨ (y.kind = 2 ∧ y.val = 0)
      · have hok : (y.kind != 1) = false ∨ ((y.kind != 1) = true ∧ (y.kind != 2) = false ∧ (y.val != 0) = false) := by
          rcases hkd with q | ⟨q, r⟩
          · exact .inl (by simp [q])
          · exact .inr ⟨by rw [q]; decide, by simp [q], by simp [r]⟩
        by_cases hk1 : y.key < 0
        · have hbad : chOk y = false := by
            cases hq : chOk y with
            | false => rfl
            | true => have := (chOk_iff y).1 hq; omega
          have HBAD := hid (HF.out (.inl hbad))
          clear hbad hkd
          rcases hok with ha | ⟨ha, hb2, hc2⟩
          all_goals
            go_wp2_with fail
            go_ret
            exact ⟨by rw [HBAD.out]; rfl, hba⟩
        · by_cases hk2 : 16 ≤ y.key
          · have hbad : chOk y = false := by
              cases hq : chOk y with
              | false => rfl
              | true => have := (chOk_iff y).1 hq; omega
            have HBAD := hid (HF.out (.inl hbad))
            clear hbad hkd
            rcases hok with ha | ⟨ha, hb2, hc2⟩
            all_goals
              go_wp2_with fail
              go_ret
              exact ⟨by rw [HBAD.out]; rfl, hba⟩
          · obtain ⟨k, hk⟩ := Int.eq_ofNat_of_zero_le (show 0 ≤ y.key by omega)
            have hk16 : (k : Int) < 16 := by omega
            have hk0 : (0 : Int) ≤ k := by omega
            have hchk : chOk y = true := (chOk_iff y).2 ⟨hkd, by omega, by omega⟩
            have HCHK := hid hchk
            have HK := hid hk
            have hcell : (wr.alloc (.cells #[.int .i64 y.kind, .int .i64 k, .int .u64 y.val] 60)).cell? ⟨w.heap.size, k, none⟩ = some (.bool (sb.getD k false)) := by
              rw [← hk, cell_of_row _ _ k _ _ _ HXA.out]; exact bcells_get (by omega)
            have hz : (wr.alloc (.cells #[.int .i64 y.kind, .int .i64 k, .int .u64 y.val] 60)).frozen? ⟨w.heap.size, k, none⟩ = false := by
              rw [← hk]; simp [World.frozen?, HXA.out]
            rw [hk] at k1 hba HXA
            have hsk := HSN.out k (by omega)
            have HSK := hid hsk
            clear hkd hchk hk hk1 hk2 hsk
            generalize hsv : sb.getD k false = sv at *
            have HSV := hid hsv
            clear hsv
            cases sv
            · have e3 := blk_set HXA.out k (.bool true)
              rw [bcells_set] at e3
              have hb3 : Below w.heap.size w ((wr.alloc (.cells #[.int .i64 y.kind, .int .i64 k, .int .u64 y.val] 60)).setCell ⟨w.heap.size, k, none⟩ (.bool true)) := hba.trans ⟨rfl, rfl, rfl, by simp [World.setCell], fun j hj => Below.heap_setCell _ _ _ _ (by show j ≠ w.heap.size; omega)⟩
              have hrr : rightL l [] = rightL (l.drop (i + 1)) (y.key :: sn) := by
                rw [HST.out, HCHK.out, HK.out, ← HSK.out]; rfl
              have hnew : ∀ j : Nat, j < 16 → (sb.set k true).getD j false = (y.key :: sn).contains (j : Int) := by
                intro j hj
                rw [HK.out, List.getD_eq_getElem?_getD, List.getElem?_set]
                by_cases e : k = j
                · subst e; simp [hsl, hj]
                · rw [if_neg e]
                  have := HSN.out j hj
                  rw [List.getD_eq_getElem?_getD] at this
                  rw [this]
                  have hne : ¬ ((j : Int) = (k : Int)) := fun q => e (by omega)
                  simp [hne]
              have HE3 := hid e3
              have HB3 := hid hb3
              have HRR := hid hrr
              have HNEW := hid hnew
              clear e3 hb3 hrr hnew
              rcases hok with ha | ⟨ha, hb2, hc2⟩
              all_goals
                go_wp2_with fail
                go_roundg (l.length + 1 - (i + 1))
                case measure => rw [HN.out]; omega
                case rel => exact ⟨i + 1, sb.set k true, y.key :: sn, by go_num, by omega, rfl, HRR.out, by simp [hsl], HNEW.out, HE3.out, HB3.out⟩
            · have HBAD := hid (HF.out (.inr (by rw [HK.out, ← HSK.out])))
              rcases hok with ha | ⟨ha, hb2, hc2⟩
              all_goals
                go_wp2_with fail
                go_ret
                exact ⟨by rw [HBAD.out]; rfl, hba⟩
      · have hbad : chOk y = false := by
          cases hq : chOk y with
          | false => rfl
          | true => exact absurd ((chOk_iff y).1 hq).1 hkd
        have HBAD := hid (HF.out (.inl hbad))
        have ha : (y.kind != 1) = true := by
          cases hq : (y.kind != 1) with
          | true => rfl
          | false => exact absurd (.inl (by simpa using hq)) hkd
        have hno : (y.kind != 2) = true ∨ ((y.kind != 2) = false ∧ (y.val != 0) = true) := by
          cases hq : (y.kind != 2) with
          | true => exact .inl rfl
          | false =>
            refine .inr ⟨rfl, ?_⟩
            cases hq2 : (y.val != 0) with
            | true => rfl
            | false => exact absurd (.inr ⟨by simpa using hq, by simpa using hq2⟩) hkd
        clear hbad hkd
        rcases hno with hb2 | ⟨hb2, hc2⟩
        all_goals
          go_wp2_with fail
          go_ret
          exact ⟨by rw [HBAD.out]; rfl, hba⟩
    · have : i = l.length := by omega
      subst this
      have HT : Hid (rightL l [] = true) := hid (by rw [HR.out, List.drop_length]; rfl)
      go_wp2_with fail
      go_ret
      exact ⟨by rw [HT.out]; rfl, hb⟩
end Go.Proofs.Ytekebjcknhjceaa
