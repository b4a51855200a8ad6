/- Walk of trothref15.Same at equal images. Conditions: the images read as ImgAt says. -/
import Derived.Test.YtdejbinmnoabeaaRzG0
namespace Go.Proofs.Ytdejbinmnoabeaa
open Go.RowKit Go.Mine Go.Proofs.YtdejbinmnoabeaaW.PrintWords
set_option linter.unusedVariables false
set_option linter.unusedSimpArgs false
set_option maxRecDepth 100000 in
set_option maxHeartbeats 4000000 in
theorem sameimg_any {w : World} {v v' : Value} {m : Img} (h : ImgAt w w.heap.size v m) (h' : ImgAt w w.heap.size v' m) (hn : m.P.length ≤ 100) (hn2 : m.L.length ≤ 100) :
    Calls Try.prog 17 #[v, v'] w fun e w' => e = .returned (.bool true) ∧ Below w.heap.size w w' := by
  obtain ⟨A1, c1, A2, c2, rfl, hp, hu, hc1, hc2⟩ := h
  obtain ⟨A3, c3, A4, c4, rfl, hp', hu', hc3, hc4⟩ := h'
  obtain ⟨wi, hwi⟩ : ∃ wi, wi = (w.alloc (.cells #[.slice A1 m.P.length c1, .slice A2 m.L.length c2, .int .i64 m.nx] 45)).alloc (.cells #[.slice A3 m.P.length c3, .slice A4 m.L.length c4, .int .i64 m.nx] 45) := ⟨_, rfl⟩
  have hb1 : Below w.heap.size w (w.alloc (.cells #[.slice A1 m.P.length c1, .slice A2 m.L.length c2, .int .i64 m.nx] 45)) := (Below.refl _ _).alloc (Nat.le_refl _) _
  have hb2 : Below w.heap.size w wi := by rw [hwi]; exact hb1.alloc hb1.size _
  have hx0 : wi.heap[w.heap.size]? = some (.cells #[.slice A1 m.P.length c1, .slice A2 m.L.length c2, .int .i64 m.nx] 45 (0, 0)) := by
    rw [hwi]; exact (((Below.refl _ _).alloc (Nat.le_refl _) _ : Below (w.alloc (.cells #[.slice A1 m.P.length c1, .slice A2 m.L.length c2, .int .i64 m.nx] 45)).heap.size (w.alloc (.cells #[.slice A1 m.P.length c1, .slice A2 m.L.length c2, .int .i64 m.nx] 45)) _).block _ (by simp)).trans (MapKept.heap_alloc w _).1
  have hx1 : wi.heap[w.heap.size + 1]? = some (.cells #[.slice A3 m.P.length c3, .slice A4 m.L.length c4, .int .i64 m.nx] 45 (0, 0)) := by
    rw [hwi]
    have := (MapKept.heap_alloc (w.alloc (.cells #[.slice A1 m.P.length c1, .slice A2 m.L.length c2, .int .i64 m.nx] 45)) (.cells #[.slice A3 m.P.length c3, .slice A4 m.L.length c4, .int .i64 m.nx] 45)).1
    rwa [World.size_alloc] at this
  have q0 := cell_of_row wi _ 0 _ _ _ hx0
  have q1 := cell_of_row wi _ 1 _ _ _ hx0
  have q2 := cell_of_row wi _ 2 _ _ _ hx0
  have p0 := cell_of_row wi _ 0 _ _ _ hx1
  have p1 := cell_of_row wi _ 1 _ _ _ hx1
  have p2 := cell_of_row wi _ 2 _ _ _ hx1
  have HP := hid hp
  have HP' := hid hp'
  have HSA := hid (Q.same_any (w := wi) A2 A4 m.L c2 c4 w.heap.size (hu.below hb2) (hu'.below hb2) (by omega))
  have HB := hid hb2
  have HX0 := hid hx0
  have HX1 := hid hx1
  have HWI := hid hwi
  rw [hwi] at q0 q1 q2 p0 p1 p2
  have dn : (m.nx != m.nx) = false := by simp
  have dl : ((m.P.length : Int) != (m.P.length : Int)) = false := by simp
  clear hp hp' hu hu' hx0 hx1 hb1 hb2 hwi
  go_enter Try.func17, Try.ntmps17
  go_wp2_with fail
  rw [← HWI.out]
  refine HSA.out.mono ?_
  rintro e w2 ⟨rfl, nq, rfl⟩
  rw [← HWI.out] at q0 q1 q2 p0 p1 p2
  have d0 : (wi.drewN nq).cell? ⟨w.heap.size, 0, none⟩ = some (.slice A1 m.P.length c1) := q0
  have d1 : (wi.drewN nq).cell? ⟨w.heap.size, 1, none⟩ = some (.slice A2 m.L.length c2) := q1
  have d2 : (wi.drewN nq).cell? ⟨w.heap.size, 2, none⟩ = some (.int .i64 m.nx) := q2
  have e0 : (wi.drewN nq).cell? ⟨w.heap.size + 1, 0, none⟩ = some (.slice A3 m.P.length c3) := p0
  have e1 : (wi.drewN nq).cell? ⟨w.heap.size + 1, 1, none⟩ = some (.slice A4 m.L.length c4) := p1
  have e2 : (wi.drewN nq).cell? ⟨w.heap.size + 1, 2, none⟩ = some (.int .i64 m.nx) := p2
  have HBZ := hid (HB.out.trans ((Q.bdN wi nq).mono HB.out.size))
  have D0 := hid d0
  have E0 := hid e0
  clear q0 q1 q2 p0 p1 p2 HSA HWI
  generalize wi.drewN nq = wz at *
  clear HB HX0 HX1
  generalize w.heap.size + 1 = b1 at *
  obtain ⟨b0, hb0⟩ : ∃ b0, b0 = w.heap.size := ⟨_, rfl⟩
  rw [← hb0] at d0 d1 d2 D0 ⊢
  clear hb0
  go_wp2_with fail
  go_loopg [5] (m.P.length + 1) (fun g v wr => ∃ i : Nat, v = .int .i64 i ∧ i ≤ m.P.length ∧ g = m.P.length + 1 - i ∧ ∃ q, wr = wz.drewN q)
  case atStart => exact ⟨0, rfl, Nat.zero_le _, rfl, 0, rfl⟩
  case round =>
    obtain ⟨i, rfl, hi, hm, q, hq⟩ := hrel
    have HM := hid hm
    have HQ := hid hq
    have f0 : wr.cell? ⟨b0, 0, none⟩ = some (.slice A1 m.P.length c1) := by rw [hq]; exact D0.out
    have g0 : wr.cell? ⟨b1, 0, none⟩ = some (.slice A3 m.P.length c3) := by rw [hq]; exact E0.out
    have hbr : Below w.heap.size w wr := by rw [hq]; exact HBZ.out.trans ((Q.bdN wz q).mono HBZ.out.size)
    have HBR := hid hbr
    clear hm hq hbr d0 d1 d2 e0 e1 e2
    by_cases h1 : i < m.P.length
    · obtain ⟨x, hx⟩ : ∃ x, m.P[i]? = some x := ⟨_, List.getElem?_eq_getElem h1⟩
      obtain ⟨b', off, rfl, hbb, hcc⟩ := (HP.out.below HBR.out) i x hx
      obtain ⟨b2, off2, rfl, hbb2, hcc2⟩ := (HP'.out.below HBR.out) i x hx
      have k0 : wr.cell? ⟨b', off + i * 2, none⟩ = some (.int .i64 x.1) := hcc 0 _ rfl
      have k1 : wr.cell? ⟨b', off + i * 2 + 1, none⟩ = some (.int .u64 x.2) := hcc 1 _ rfl
      have l0 : wr.cell? ⟨b2, off2 + i * 2, none⟩ = some (.int .i64 x.1) := hcc2 0 _ rfl
      have l1 : wr.cell? ⟨b2, off2 + i * 2 + 1, none⟩ = some (.int .u64 x.2) := hcc2 1 _ rfl
      clear hcc hcc2 hx
      go_wp2_with fail
      go_quiet (fail)
      go_wp2_with fail
      go_roundg (m.P.length + 1 - (i + 1))
      case measure => rw [HM.out]; omega
      case rel => exact ⟨i + 1, by go_num, by omega, rfl, _, by rw [HQ.out]; exact Q.drewN_two _ _ _⟩
    · go_wp2_with fail
      go_ret
      exact ⟨rfl, HBR.out⟩
end Go.Proofs.Ytdejbinmnoabeaa
