/- Walk of the document's queue: Taker; what it answers of an item. Conditions: the queue reads as DAt says. -/
import Derived.Test.YtmckdoiepmkbbaaQdB
namespace Go.Mine
set_option linter.unusedVariables false
set_option linter.unusedSimpArgs false
theorem takesIt_iff {num : Int} {l : List Ch} : takesIt num l = true ↔ ∃ c ∈ takesOf l, c.key = num := by
  unfold takesIt takesOf
  rw [List.any_eq_true]
  constructor
  · rintro ⟨c, hc, h⟩
    rw [Bool.and_eq_true] at h
    exact ⟨c, List.mem_filter.2 ⟨hc, h.1⟩, by simpa using h.2⟩
  · rintro ⟨c, hc, h⟩
    have := List.mem_filter.1 hc
    exact ⟨c, this.1, by rw [this.2, Bool.true_and]; simpa using h⟩
theorem QS.Ok.uniq {s : QS} (h : s.Ok) {x y : It} (hx : x ∈ s.its) (hy : y ∈ s.its) (e : x.num = y.num) : x = y := by
  obtain ⟨i, hi, rfl⟩ := List.mem_iff_getElem.1 hx
  obtain ⟨j, hj, rfl⟩ := List.mem_iff_getElem.1 hy
  have h1 := h.num i _ (List.getElem?_eq_getElem hi)
  have h2 := h.num j _ (List.getElem?_eq_getElem hj)
  have : i = j := by omega
  subst this
  rfl
theorem QS.Ok.holds {s : QS} (h : s.Ok) {x : It} (hx : x ∈ s.its) {e : Int × KW} (he : e ∈ s.ws) : takesIt x.num e.2.l = true ↔ e.1 = x.by_ := by
  have hp := h.pos e he
  have h1 := h.held e.1 (by omega)
  have h2 : listOfW e.1 s.ws = e.2.l := by unfold listOfW; rw [aget_of_mem h.keys (show (e.1, e.2) ∈ s.ws from he)]; rfl
  rw [h2] at h1
  rw [takesIt_iff, ← h1]
  constructor
  · rintro ⟨c, hc, hk⟩
    obtain ⟨y, hy, rfl⟩ := List.mem_map.1 hc
    have hy2 := List.mem_filter.1 hy
    have := h.uniq hy2.1 hx hk
    subst this
    have h3 : y.by_ = e.1 := by simpa using hy2.2
    exact h3.symm
  · intro q
    exact ⟨chOf x, List.mem_map.2 ⟨x, List.mem_filter.2 ⟨hx, by simpa using q.symm⟩, rfl⟩, rfl⟩
theorem QS.Ok.taker {s : QS} (h : s.Ok) {x : It} (hx : x ∈ s.its) : takerW x.num s.ws = x.by_ := by
  unfold takerW
  cases hf : s.ws.find? (fun e => takesIt x.num e.2.l) with
  | some e =>
    have hm := List.mem_of_find?_eq_some hf
    have ht := List.find?_some hf
    exact (h.holds hx hm).1 ht
  | none =>
    rw [List.find?_eq_none] at hf
    apply Classical.byContradiction
    intro hne
    have hne' : x.by_ ≠ 0 := fun q => hne (by rw [q]; rfl)
    have h1 := h.held x.by_ hne'
    have hm : chOf x ∈ takesOf (listOfW x.by_ s.ws) := by
      rw [← h1]
      exact List.mem_map.2 ⟨x, List.mem_filter.2 ⟨hx, by simp⟩, rfl⟩
    cases hg : aget x.by_ s.ws with
    | none => rw [listOfW_free hg] at hm; simp [takesOf] at hm
    | some v =>
      have he := aget_mem hg
      exact hf _ he ((h.holds hx he).2 rfl)
end Go.Mine
namespace Go.Proofs.Ytmckdoiepmkbbaa
open Go.RowKit Go.Mine Go.Proofs.YtmckdoiepmkbbaaW.PrintWords
set_option linter.unusedVariables false
set_option linter.unusedSimpArgs false
theorem taker_wsOf (num : Int) (I : List WI) : takerW num (wsOf I) = ((I.find? (fun x => takesIt num x.l)).map (·.n)).getD 0 := by
  unfold takerW wsOf
  rw [List.find?_map, Option.map_map]
  rfl
set_option maxRecDepth 100000 in
set_option maxHeartbeats 4000000 in
theorem dtaker_any {F : Nat → Prop} {w : World} {b : Nat} {s : QS} (h : DAt F w b s) (hb : s.Bd) (num : Int) :
    Calls Try.prog 56 #[.pointer (some ⟨b, 0, none⟩), .int .i64 num] w fun e w' => e = .returned (.int .i64 (takerW num s.ws)) ∧ Below w.heap.size w w' := by
  obtain ⟨I, iv, qv, hR, hws⟩ := h
  have hIl : I.length ≤ 1000 := by have := hb.ws; rw [hws] at this; simpa [wsOf] using this
  have hls : ∀ x ∈ I, x.l.length ≤ 1000 := fun x hx => hb.ls (x.n, ⟨x.l, x.p⟩) (by rw [hws]; exact List.mem_map.2 ⟨x, hx, rfl⟩)
  have htw := taker_wsOf num I
  rw [← hws] at htw
  obtain ⟨A, c, hqv, hAc, hat⟩ := hR.wp.at_
  have hc : w.cell? ⟨b, 1, none⟩ = some (.slice A I.length c) := by rw [cell_of_row w b 1 _ _ _ hR.blk, ← hqv]; rfl
  have HR := hid hR
  have HAT := hid hat
  have HTW := hid htw
  have HLS := hid hls
  clear hat hR hws hqv htw hls hb
  go_enter Try.func56, Try.ntmps56
  go_wp2_with fail
  go_loopg [5] (I.length + 1) (fun m v5 wr => ∃ i : Nat, v5 = .int .i64 i ∧ i ≤ I.length ∧ m = I.length + 1 - i ∧ (∀ j x, j < i → I[j]? = some x → takesIt num x.l = false) ∧ Below w.heap.size w wr)
  case atStart => exact ⟨0, rfl, Nat.zero_le _, rfl, fun j x hj => by omega, Below.refl _ _⟩
  case round =>
    obtain ⟨i, rfl, hi, hm, hno, hbl⟩ := hrel
    have HN := hid hm
    have HNO := hid hno
    have hcr : wr.cell? ⟨b, 1, none⟩ = some (.slice A I.length c) := (hbl.cell (World.block_lt_of_cell? _ _ hc)).trans hc
    clear hm hno
    by_cases h1 : i < I.length
    · obtain ⟨x, hx⟩ : ∃ x, I[i]? = some x := ⟨_, List.getElem?_eq_getElem h1⟩
      have hwk := HR.out.wk x (List.mem_of_getElem? hx)
      obtain ⟨A2, c2, hv2, hc2, hat2⟩ := hwk.2.2.1.at_
      have hxl := HLS.out x (List.mem_of_getElem? hx)
      have j1 : w.cell? ⟨x.wb, 1, none⟩ = some (.slice A2 x.l.length c2) := by rw [cell_of_row _ _ 1 _ _ _ hwk.2.1, ← hv2]; rfl
      have j0 : w.cell? ⟨x.wb, 0, none⟩ = some (.int .i64 x.n) := by rw [cell_of_row _ _ 0 _ _ _ hwk.2.1]; rfl
      obtain ⟨b', off, rfl, hbb, hcc⟩ := HAT.out i x hx
      have j2 : w.cell? ⟨b', off + i, none⟩ = some (ptrV x.wb) := by have := hcc 0 _ rfl; simpa [eWI] using this
      have HAT2 := hid hat2
      have HX := hid hx
      have J0 := hid j0
      have J1 := hid j1
      have J2 := hid j2
      clear hcc hx hwk hat2 hv2 j0 j1 j2
      obtain ⟨wo, hwo⟩ : ∃ wo, wo = wr := ⟨_, rfl⟩
      have hblo : Below w.heap.size w wo := by rw [hwo]; exact hbl
      have HBLO := hid hblo
      clear hblo
      go_wp2_with fail
      go_loopg [6] (x.l.length + 1) (fun m v6 wr => ∃ k : Nat, v6 = .int .i64 k ∧ k ≤ x.l.length ∧ m = x.l.length + 1 - k ∧ (∀ j y, j < k → x.l[j]? = some y → (y.kind == 4 && y.key == num) = false) ∧ Below w.heap.size w wr)
      case atStart => exact ⟨0, rfl, Nat.zero_le _, rfl, fun j y hj => by omega, hbl⟩
      case round =>
        obtain ⟨k, rfl, hk, hm2, hno2, hb2⟩ := hrel
        have HN2 := hid hm2
        have HNO2 := hid hno2
        have hcr2 : wr.cell? ⟨b, 1, none⟩ = some (.slice (some ⟨b', off, none⟩) I.length c) := (hb2.cell (World.block_lt_of_cell? _ _ hc)).trans hc
        have j0 := (hb2.cell (World.block_lt_of_cell? _ _ J0.out)).trans J0.out
        have j1 := (hb2.cell (World.block_lt_of_cell? _ _ J1.out)).trans J1.out
        have j2 := (hb2.cell (World.block_lt_of_cell? _ _ J2.out)).trans J2.out
        clear hm2 hno2
        by_cases h2 : k < x.l.length
        · obtain ⟨y, hy⟩ : ∃ y, x.l[k]? = some y := ⟨_, List.getElem?_eq_getElem h2⟩
          obtain ⟨b3, off3, rfl, hb3, hc3⟩ := HAT2.out k y hy
          have i0 : w.cell? ⟨b3, off3 + k * 3, none⟩ = some (.int .i64 y.kind) := hc3 0 _ rfl
          have i1 : w.cell? ⟨b3, off3 + k * 3 + 1, none⟩ = some (.int .i64 y.key) := hc3 1 _ rfl
          have i2 : w.cell? ⟨b3, off3 + k * 3 + 2, none⟩ = some (.int .u64 y.val) := hc3 2 _ rfl
          have m0 := (hb2.cell (World.block_lt_of_cell? _ _ i0)).trans i0
          have m1 := (hb2.cell (World.block_lt_of_cell? _ _ i1)).trans i1
          have m2 := (hb2.cell (World.block_lt_of_cell? _ _ i2)).trans i2
          have hba : Below w.heap.size w (wr.alloc (.cells #[.int .i64 y.kind, .int .i64 y.key, .int .u64 y.val] 43)) := hb2.alloc hb2.size _
          have hba2 : Below wr.heap.size wr (wr.alloc (.cells #[.int .i64 y.kind, .int .i64 y.key, .int .u64 y.val] 43)) := (Below.refl _ _).alloc (Nat.le_refl _) _
          have HBA := hid hba
          have HY := hid hy
          clear hc3 hy i0 i1 i2 hba
          cases q1 : (y.kind == 4)
          · go_wp2_with fail
            go_roundg (x.l.length + 1 - (k + 1))
            case measure => rw [HN2.out]; omega
            case rel =>
              refine ⟨k + 1, by go_num, by omega, rfl, fun j z hj hz => ?_, HBA.out⟩
              rcases Nat.lt_succ_iff_lt_or_eq.1 hj with hj | rfl
              · exact HNO2.out j z hj hz
              · rw [HY.out] at hz; cases hz; rw [q1]; rfl
          · cases q2 : (y.key == num)
            · go_wp2_with fail
              go_roundg (x.l.length + 1 - (k + 1))
              case measure => rw [HN2.out]; omega
              case rel =>
                refine ⟨k + 1, by go_num, by omega, rfl, fun j z hj hz => ?_, HBA.out⟩
                rcases Nat.lt_succ_iff_lt_or_eq.1 hj with hj | rfl
                · exact HNO2.out j z hj hz
                · rw [HY.out] at hz; cases hz; rw [q1, q2]; rfl
            · have hfd : I.find? (fun x => takesIt num x.l) = some x := by
                obtain ⟨hi2, he⟩ := List.getElem?_eq_some_iff.1 HX.out
                rw [List.find?_eq_some_iff_getElem]
                refine ⟨?_, i, hi2, he, fun j hj => ?_⟩
                · unfold takesIt
                  rw [List.any_eq_true]
                  exact ⟨y, List.mem_of_getElem? HY.out, by rw [q1, q2]; rfl⟩
                · have := HNO.out j _ hj (List.getElem?_eq_getElem (by omega))
                  simpa using this
              have hres : takerW num s.ws = x.n := by rw [HTW.out, hfd]; rfl
              have HRES := hid hres
              have n0 := (hba2.cell (World.block_lt_of_cell? _ _ j0)).trans j0
              have n1 := (hba2.cell (World.block_lt_of_cell? _ _ j2)).trans j2
              have n2 := (hba2.cell (World.block_lt_of_cell? _ _ hcr2)).trans hcr2
              clear hfd hres
              go_wp2_with fail
              go_ret
              exact ⟨by rw [HRES.out]; rfl, HBA.out⟩
        · have hkl : k = x.l.length := by omega
          subst hkl
          go_wp2_with fail
          go_roundg (I.length + 1 - (i + 1))
          case measure => rw [HN.out]; omega
          case rel =>
            refine ⟨i + 1, by go_num, by omega, rfl, fun j z hj hz => ?_, hb2⟩
            rcases Nat.lt_succ_iff_lt_or_eq.1 hj with hj | rfl
            · exact HNO.out j z hj hz
            · rw [HX.out] at hz; cases hz
              unfold takesIt
              rw [List.any_eq_false]
              intro y hy
              obtain ⟨j, hj2, rfl⟩ := List.mem_iff_getElem.1 hy
              rw [HNO2.out j _ hj2 (List.getElem?_eq_getElem hj2)]
              simp
    · have hfd : I.find? (fun x => takesIt num x.l) = none := by
        rw [List.find?_eq_none]
        intro x hx
        obtain ⟨j, hj, rfl⟩ := List.mem_iff_getElem.1 hx
        have := HNO.out j _ (by omega) (List.getElem?_eq_getElem hj)
        simpa using this
      have hres : takerW num s.ws = 0 := by rw [HTW.out, hfd]; rfl
      have HRES := hid hres
      clear hfd hres
      go_wp2_with fail
      go_ret
      exact ⟨by rw [HRES.out]; rfl, hbl⟩
end Go.Proofs.Ytmckdoiepmkbbaa
