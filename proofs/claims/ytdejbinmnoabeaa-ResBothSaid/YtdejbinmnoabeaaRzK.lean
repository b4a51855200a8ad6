/- Walks of the statements' alive, same and played. Conditions: the lists read. -/
import Derived.Test.YtdejbinmnoabeaaRzJ
namespace Go.Proofs.Ytdejbinmnoabeaa
open Go.RowKit Go.Mine Go.Proofs.YtdejbinmnoabeaaW.PrintWords
set_option linter.unusedVariables false
set_option linter.unusedSimpArgs false
theorem read_one (A : Option Addr) (c : Nat) (w : World) : Calls Try.prog 11 #[.slice A 1 c] w fun e w' => e = .returned (.tuple #[.slice none 0 0, .int .i64 11]) ∧ w = w' := by
  go_enter Try.func11, Try.ntmps11
  go_wp2_with fail
  go_ret2
  exact ⟨rfl, rfl⟩
set_option maxRecDepth 100000 in
set_option maxHeartbeats 4000000 in
theorem alive_any (w : World) : Calls Try.prog 8 #[] w fun e w' => e = .returned (.bool true) ∧ Below w.heap.size w w' := by
  obtain ⟨s1, hs1⟩ : ∃ s1, s1 = (RM.new.change 1 ⟨1, 3, 9⟩).2 := ⟨_, rfl⟩
  obtain ⟨s2, hs2⟩ : ∃ s2, s2 = (s1.push 1 7).2 := ⟨_, rfl⟩
  obtain ⟨s3, hs3⟩ : ∃ s3, s3 = (s2.prepare 1).2 := ⟨_, rfl⟩
  have e2 : (s2.prepare 1).1 = ([⟨1, 3, 9⟩, ⟨3, 0, 7⟩], 0) := by rw [hs2, hs1]; kernel_rfl
  have e3 : (s3.push 1 8).1 = 7 := by rw [hs3, hs2, hs1]; kernel_rfl
  have h0 := new_rat w
  have C1 := hid (put_any h0 1 3 9)
  have hb0 : Below w.heap.size w (w.alloc (.cells nilRes 91)) := (Below.refl _ _).alloc (Nat.le_refl _) _
  rw [← hs1] at C1
  have HB0 := hid hb0
  have HS2 := hid hs2
  have HS3 := hid hs3
  have E2 := hid e2
  have E3 := hid e3
  clear h0 hb0 hs1 hs2 hs3 e2 e3
  go_enter Try.func8, Try.ntmps8
  go_wp2_with fail
  refine (new_any w).mono ?_
  rintro e w1 ⟨rfl, rfl⟩
  go_wp2_with fail
  refine C1.out.mono ?_
  rintro e w2 ⟨rfl, ⟨F2, h2, g2⟩, f2⟩
  have C2 := hid (push_any h2 1 7)
  rw [← HS2.out] at C2
  have hg2 : ∀ i, F2 i → w.heap.size ≤ i := fun i hi => (g2 i hi).elim (fun q => Nat.le_of_eq q.symm) (fun q => Nat.le_trans HB0.out.size q)
  have hb2 : Below w.heap.size w w2 := HB0.out.trans (f2.below HB0.out.size (fun k hk q => by omega))
  have HG2 := hid hg2
  have HB2 := hid hb2
  clear C1 h2 g2 f2 hg2 hb2 HB0
  go_wp2_with fail
  refine C2.out.mono ?_
  rintro e w3 ⟨rfl, ⟨F3, h3, g3⟩, f3⟩
  have C3 := hid (prepare_any h3 1)
  have hg3 : ∀ i, F3 i → w.heap.size ≤ i := fun i hi => (g3 i hi).elim (HG2.out i) (fun q => Nat.le_trans HB2.out.size q)
  have hb3 : Below w.heap.size w w3 := HB2.out.trans (f3.below HB2.out.size (fun k hk q => by have := HG2.out k q; omega))
  have HG3 := hid hg3
  have HB3 := hid hb3
  clear C2 h3 g3 f3 hg3 hb3 HG2 HB2
  go_wp2_with fail
  refine C3.out.mono ?_
  rintro e w4 ⟨A4, c4, rfl, ⟨F4, h4, g4, o4⟩, u4, hc4, f4⟩
  have hg4 : ∀ i, F4 i → w.heap.size ≤ i := fun i hi => (g4 i hi).elim (HG3.out i) (fun q => Nat.le_trans HB3.out.size q)
  have hb4 : Below w.heap.size w w4 := HB3.out.trans (f4.below HB3.out.size (fun k hk q => by have := HG3.out k q; omega))
  rw [← HS3.out] at h4
  have C4 := hid (push_any h4 1 8)
  rw [E2.out] at u4 hc4 ⊢
  rw [E3.out] at C4
  have HG4 := hid hg4
  have HB4 := hid hb4
  have HU4 := hid u4
  have HO4 := hid o4
  clear C3 h4 g4 f4 hg4 hb4 HG3 HB3 u4 o4
  go_wp2_with fail
  refine C4.out.mono ?_
  rintro e w5 ⟨rfl, ⟨F5, h5, g5⟩, f5⟩
  have hb5 : Below w.heap.size w w5 := HB4.out.trans (f5.below HB4.out.size (fun k hk q => by have := HG4.out k q; omega))
  have hu5 : ChAt w5 w5.heap.size A4 [⟨1, 3, 9⟩, ⟨3, 0, 7⟩] := row_fr HU4.out f5 (fun k off e => (HO4.out k off e).2)
  have hb6 : Below w5.heap.size w5 (w5.alloc (.cells #[.int .u8 1] 5)) := (Below.refl _ _).alloc (Nat.le_refl _) _
  have hu6 := (Q.RowAt.below hu5 hb6)
  have HB6 := hid (hb5.trans (hb6.mono hb5.size))
  obtain ⟨b4, off4, rfl, hlt4, hcc⟩ := hu6 0 _ rfl
  obtain ⟨b4', off4', e4, hlt4', hcc2⟩ := hu6 1 _ rfl
  cases e4
  have HK := hid hcc
  have HK2 := hid hcc2
  clear C4 h5 g5 f5 hb5 hu5 hb6 hu6 HU4 HO4 HB4 HG4 hcc hcc2 hlt4'
  go_wp2_with fail
  generalize (w5.alloc (.cells #[.int .u8 1] 5)) = w6 at *
  refine (read_one _ _ _).mono ?_
  rintro e w7 ⟨rfl, rfl⟩
  have k0 : w6.cell? ⟨b4, off4, none⟩ = some (.int .i64 1) := HK.out 0 _ rfl
  have k1 : w6.cell? ⟨b4, off4 + 1, none⟩ = some (.int .i64 3) := HK.out 1 _ rfl
  have k2 : w6.cell? ⟨b4, off4 + 2, none⟩ = some (.int .u64 9) := HK.out 2 _ rfl
  have k3 : w6.cell? ⟨b4, off4 + 3, none⟩ = some (.int .i64 3) := HK2.out 0 _ rfl
  have k4 : w6.cell? ⟨b4, off4 + 4, none⟩ = some (.int .i64 0) := HK2.out 1 _ rfl
  have k5 : w6.cell? ⟨b4, off4 + 5, none⟩ = some (.int .u64 7) := HK2.out 2 _ rfl
  go_wp2_with fail
  go_ret
  exact ⟨rfl, HB6.out⟩
set_option maxRecDepth 100000 in
set_option maxHeartbeats 4000000 in
theorem same_told {w : World} {A A' : Option Addr} {l : List Ch} {c c' : Nat} (x : Int) (t : Bool) (e0 : Int) (h : ChAt w w.heap.size A l) (h' : ChAt w w.heap.size A' l) (hn : l.length ≤ 1000) :
    Calls Try.prog 15 #[.agg #[.int .u64 x, .bool t, .slice A l.length c, .int .i64 e0], .agg #[.int .u64 x, .bool t, .slice A' l.length c', .int .i64 e0]] w fun e w' => e = .returned (.bool true) ∧ Below w.heap.size w w' := by
  obtain ⟨wi, hwi⟩ : ∃ wi, wi = (w.alloc (.cells #[.int .u64 x, .bool t, .slice A l.length c, .int .i64 e0] 37)).alloc (.cells #[.int .u64 x, .bool t, .slice A' l.length c', .int .i64 e0] 37) := ⟨_, rfl⟩
  have hb1 : Below w.heap.size w (w.alloc (.cells #[.int .u64 x, .bool t, .slice A l.length c, .int .i64 e0] 37)) := (Below.refl _ _).alloc (Nat.le_refl _) _
  have hb2 : Below w.heap.size w wi := by rw [hwi]; exact hb1.alloc hb1.size _
  have HC := hid (Q.samech_any A A' l c c' w.heap.size wi (Q.RowAt.below h hb2) (Q.RowAt.below h' hb2) (by omega))
  have sa : (w.alloc (.cells #[.int .u64 x, .bool t, .slice A l.length c, .int .i64 e0] 37)).heap.size = w.heap.size + 1 := by simp
  have hx0 : wi.heap[w.heap.size]? = some (.cells #[.int .u64 x, .bool t, .slice A l.length c, .int .i64 e0] 37 (0, 0)) := by
    rw [hwi]
    exact (((Below.refl _ _).alloc (Nat.le_refl _) _ : Below (w.alloc (.cells #[.int .u64 x, .bool t, .slice A l.length c, .int .i64 e0] 37)).heap.size _ _).block _ (by simp)).trans (MapKept.heap_alloc w _).1
  have hx1 : wi.heap[w.heap.size + 1]? = some (.cells #[.int .u64 x, .bool t, .slice A' l.length c', .int .i64 e0] 37 (0, 0)) := by
    rw [hwi, ← sa]
    exact (MapKept.heap_alloc _ _).1
  have HB2 := hid hb2
  have HX0 := hid hx0
  have HX1 := hid hx1
  have HWI := hid hwi
  have dx : (x == x) = true := by simp
  have de : (e0 == e0) = true := by simp
  have dt : (t == t) = true := by simp
  clear hb1 hb2 sa hx0 hx1 hwi h h'
  go_enter Try.func15, Try.ntmps15
  go_wp2_with fail
  rw [← HWI.out]
  refine HC.out.mono ?_
  rintro e w2 ⟨rfl, nq, rfl⟩
  have q3 : (wi.drewN nq).cell? ⟨w.heap.size, 3, none⟩ = some (.int .i64 e0) := by
    have := cell_of_row wi _ 3 _ _ _ HX0.out; exact this
  have p3 : (wi.drewN nq).cell? ⟨w.heap.size + 1, 3, none⟩ = some (.int .i64 e0) := by
    have := cell_of_row wi _ 3 _ _ _ HX1.out; exact this
  have HBZ := hid (HB2.out.trans ((Q.bdN wi nq).mono HB2.out.size))
  clear HX0 HX1 HWI HC HB2
  generalize wi.drewN nq = wz at *
  go_wp2_with fail
  go_ret
  exact ⟨rfl, HBZ.out⟩
end Go.Proofs.Ytdejbinmnoabeaa
