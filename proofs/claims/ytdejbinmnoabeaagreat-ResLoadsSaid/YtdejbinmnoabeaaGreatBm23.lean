/- Texts of this seat, put together: RdF, RzG0, RzG. -/
import Derived.Test.YtdejbinmnoabeaaGreatBm20
import Derived.Test.YtdejbinmnoabeaaGreatBm22
import Derived.Deep.DeepCutAuto
import Derived.Deep.CutBlock
import Derived.Test.YtdejbinmnoabeaaGreatBm21
import Derived.Test.YtdejbinmnoabeaaGreatBm18
import Derived.Laws.Rows
namespace Go.Mine
def callLP (LP : List (Int × Int)) (s : RM) (o : ROp) : List (Int × Int) := if o.kind = 6 then commitD LP s.k o.work else LP
end Go.Mine
namespace Go.Proofs.YtdejbinmnoabeaaGreat
open Go.RowKit Go.Mine Go.Proofs.YtdejbinmnoabeaaGreatW.PrintWords
set_option linter.unusedVariables false
set_option linter.unusedSimpArgs false
def DRCall (F : Nat → Prop) (w : World) (b : Nat) (LP : List (Int × Int)) (R : RTold × RM) (e : Ending) (w' : World) : Prop :=
  ∃ A c, e = .returned (.agg #[.int .u64 R.1.v, .bool R.1.t, .slice A R.1.l.length c, .int .i64 R.1.e]) ∧ (∃ F', DR F' w' b LP R.2 ∧ K.Grew F F' w ∧ ∀ k off, A = some ⟨k, off, none⟩ → w.heap.size ≤ k ∧ ¬ F' k) ∧ ChAt w' w'.heap.size A R.1.l ∧ Fr F w w'
set_option maxRecDepth 100000 in
set_option maxHeartbeats 8000000 in
theorem model_any {F : Nat → Prop} {w : World} {b : Nat} {LP : List (Int × Int)} {s : RM} (h : DR F w b LP s) (hag : Agree LP s.k) (hk : s.k.ws.length ≤ 900) (hok : s.Ok) (o : ROp) (hl : o.kind = 8 → ChAt w w.heap.size o.la o.l ∧ o.l.length ≤ 900) :
    Calls Tryz.prog 9 #[.pointer (some ⟨b, 0, none⟩), .agg #[.int .i64 o.kind, .int .i64 o.work, .int .i64 o.key, .int .u64 o.val, .slice o.la o.l.length o.lc]] w (DRCall F w b (callLP LP s o) (callR s o)) := by
  obtain ⟨wi, hwi⟩ : ∃ wi, wi = (((w.alloc (.cells #[.int .i64 o.kind, .int .i64 o.work, .int .i64 o.key, .int .u64 o.val, .slice o.la o.l.length o.lc] 42)).alloc (.cells #[.int .u64 0, .bool false, .slice none 0 0, .int .i64 0] 47)).alloc (.cells #[.int .u64 0, .bool false, .slice none 0 0, .int .i64 0] 47)) := ⟨_, rfl⟩
  have hba : Below w.heap.size w (w.alloc (.cells #[.int .i64 o.kind, .int .i64 o.work, .int .i64 o.key, .int .u64 o.val, .slice o.la o.l.length o.lc] 42)) := (Below.refl _ _).alloc (Nat.le_refl _) _
  have hbb : Below w.heap.size w ((w.alloc (.cells #[.int .i64 o.kind, .int .i64 o.work, .int .i64 o.key, .int .u64 o.val, .slice o.la o.l.length o.lc] 42)).alloc (.cells #[.int .u64 0, .bool false, .slice none 0 0, .int .i64 0] 47)) := hba.alloc hba.size _
  have hbi : Below w.heap.size w wi := by rw [hwi]; exact hbb.alloc hbb.size _
  have sa : (w.alloc (.cells #[.int .i64 o.kind, .int .i64 o.work, .int .i64 o.key, .int .u64 o.val, .slice o.la o.l.length o.lc] 42)).heap.size = w.heap.size + 1 := by simp
  have sb : ((w.alloc (.cells #[.int .i64 o.kind, .int .i64 o.work, .int .i64 o.key, .int .u64 o.val, .slice o.la o.l.length o.lc] 42)).alloc (.cells #[.int .u64 0, .bool false, .slice none 0 0, .int .i64 0] 47)).heap.size = w.heap.size + 1 + 1 := by simp
  have hx0 : wi.heap[w.heap.size]? = some (.cells #[.int .i64 o.kind, .int .i64 o.work, .int .i64 o.key, .int .u64 o.val, .slice o.la o.l.length o.lc] 42 (0, 0)) := by
    rw [hwi]
    exact ((((Below.refl _ _).alloc (Nat.le_refl _) _ : Below (w.alloc (.cells #[.int .i64 o.kind, .int .i64 o.work, .int .i64 o.key, .int .u64 o.val, .slice o.la o.l.length o.lc] 42)).heap.size (w.alloc (.cells #[.int .i64 o.kind, .int .i64 o.work, .int .i64 o.key, .int .u64 o.val, .slice o.la o.l.length o.lc] 42)) _).alloc (by simp) _).block _ (by simp)).trans (MapKept.heap_alloc w _).1
  have hx1 : wi.heap[w.heap.size + 1]? = some (.cells #[.int .u64 0, .bool false, .slice none 0 0, .int .i64 0] 47 (0, 0)) := by
    rw [hwi, ← sa]
    exact (((Below.refl _ _).alloc (Nat.le_refl _) _ : Below ((w.alloc (.cells #[.int .i64 o.kind, .int .i64 o.work, .int .i64 o.key, .int .u64 o.val, .slice o.la o.l.length o.lc] 42)).alloc (.cells #[.int .u64 0, .bool false, .slice none 0 0, .int .i64 0] 47)).heap.size ((w.alloc (.cells #[.int .i64 o.kind, .int .i64 o.work, .int .i64 o.key, .int .u64 o.val, .slice o.la o.l.length o.lc] 42)).alloc (.cells #[.int .u64 0, .bool false, .slice none 0 0, .int .i64 0] 47)) _).block _ (by simp)).trans (MapKept.heap_alloc _ _).1
  have hx2 : wi.heap[w.heap.size + 1 + 1]? = some (.cells #[.int .u64 0, .bool false, .slice none 0 0, .int .i64 0] 47 (0, 0)) := by
    rw [hwi, ← sb]
    exact (MapKept.heap_alloc _ _).1
  have hsi : wi.heap.size = w.heap.size + 1 + 1 + 1 := by rw [hwi]; simp
  have hlo : ∀ i, F i → i < w.heap.size := h.fb
  have hai : DR F wi b LP s := h.below (hbi.mono (Nat.le_refl _))
  have HAI := hid hai
  have HLO := hid hlo
  have HL := hid hl
  have HAG := hid hag
  have HKK := hid hk
  have HOK := hid hok
  clear h hai hlo hl hag hk hok
  have HWI := hid hwi
  have HBI := hid hbi
  have HS := hid hsi
  clear hwi hbi hba hbb sa sb hsi
  go_enter Tryz.func9, Tryz.ntmps9
  go_upto_block 0 with (fail)
  rw [← HWI.out]
  have hge1 : Hid (w.heap.size ≤ w.heap.size + 1) := hid (by omega)
  have hge2 : Hid (w.heap.size ≤ w.heap.size + 1 + 1) := hid (by omega)
  have hne : Hid (w.heap.size + 1 ≠ w.heap.size + 1 + 1) := hid (by omega)
  have hlt1 : Hid (w.heap.size + 1 < wi.heap.size) := hid (by rw [HS.out]; omega)
  have hlt2 : Hid (w.heap.size + 1 + 1 < wi.heap.size) := hid (by rw [HS.out]; omega)
  clear HWI HS
  obtain ⟨b0, hb0⟩ : ∃ b0, b0 = w.heap.size := ⟨_, rfl⟩
  generalize w.heap.size + 1 + 1 = b2 at *
  generalize w.heap.size + 1 = b1 at *
  rw [← hb0] at hx0 ⊢
  clear hb0
  have k0 := cell_of_row wi b0 0 _ _ _ hx0
  have k1 := cell_of_row wi b0 1 _ _ _ hx0
  have k2 := cell_of_row wi b0 2 _ _ _ hx0
  have k3 := cell_of_row wi b0 3 _ _ _ hx0
  have k4 := cell_of_row wi b0 4 _ _ _ hx0
  have HX1 := hid hx1
  have HX2 := hid hx2
  clear hx0 hx1 hx2
  go_cut [] (fun wc => ∃ A c, wc.heap[b2]? = some (.cells #[.int .u64 (callR s o).1.v, .bool (callR s o).1.t, .slice A (callR s o).1.l.length c, .int .i64 (callR s o).1.e] 47 (0, 0)) ∧ wc.heap[b1]? = some (.cells #[.int .u64 0, .bool false, .slice none 0 0, .int .i64 0] 47 (0, 0)) ∧ (∃ F1, DR F1 wc b (callLP LP s o) (callR s o).2 ∧ K.Grew F F1 w ∧ ¬ F1 b1 ∧ ∀ k off, A = some ⟨k, off, none⟩ → w.heap.size ≤ k ∧ ¬ F1 k ∧ k ≠ b1) ∧ ChAt wc wc.heap.size A (callR s o).1.l ∧ Fr F w wc)
  case first =>
    cases q0 : (o.kind == 0)
    · cases q1 : (o.kind == 1)
      · cases q2 : (o.kind == 2)
        · cases q3 : (o.kind == 3)
          · cases q4 : (o.kind == 4)
            · cases q5 : (o.kind == 5)
              · cases q6 : (o.kind == 6)
                · cases q7 : (o.kind == 7)
                  · cases q8 : (o.kind == 8)
                    · have n0 : ¬ o.kind = 0 := by simpa using q0
                      have n1 : ¬ o.kind = 1 := by simpa using q1
                      have n2 : ¬ o.kind = 2 := by simpa using q2
                      have n3 : ¬ o.kind = 3 := by simpa using q3
                      have n4 : ¬ o.kind = 4 := by simpa using q4
                      have n5 : ¬ o.kind = 5 := by simpa using q5
                      have n6 : ¬ o.kind = 6 := by simpa using q6
                      have n7 : ¬ o.kind = 7 := by simpa using q7
                      have n8 : ¬ o.kind = 8 := by simpa using q8
                      have HR := hid (show callR s o = _ from by unfold callR; rw [if_neg n0, if_neg n1, if_neg n2, if_neg n3, if_neg n4, if_neg n5, if_neg n6, if_neg n7, if_neg n8])
                      have HLPJ := hid (show callLP LP s o = LP from by unfold callLP; rw [if_neg n6])
                      clear n0 n1 n2 n3 n4 n5 n6 n7 n8
                      go_wp2_with fail
                      go_meet
                      case rel =>
                        rw [HR.out, HLPJ.out]
                        exact ⟨none, 0, HX2.out, HX1.out, ⟨F, HAI.out, K.Grew.refl _ _, (fun q => by have := HLO.out _ q; have := hge1.out; omega), fun k off e => by cases e⟩, fun i x hx => by simp at hx, (Fr.of_below HBI.out (Nat.le_refl _)).mono (fun _ q => q.elim)⟩
                    · have n0 : ¬ o.kind = 0 := by simpa using q0
                      have n1 : ¬ o.kind = 1 := by simpa using q1
                      have n2 : ¬ o.kind = 2 := by simpa using q2
                      have n3 : ¬ o.kind = 3 := by simpa using q3
                      have n4 : ¬ o.kind = 4 := by simpa using q4
                      have n5 : ¬ o.kind = 5 := by simpa using q5
                      have n6 : ¬ o.kind = 6 := by simpa using q6
                      have n7 : ¬ o.kind = 7 := by simpa using q7
                      have p8 : o.kind = 8 := by simpa using q8
                      have HR := hid (show callR s o = _ from by unfold callR; rw [if_neg n0, if_neg n1, if_neg n2, if_neg n3, if_neg n4, if_neg n5, if_neg n6, if_neg n7, if_pos p8])
                      have HC := hid (drestore_any HAI.out HKK.out HOK.out o.work o.la o.l o.lc (((HL.out p8).1.below HBI.out).up HBI.out.size) (HL.out p8).2)
                      have HLPJ := hid (show callLP LP s o = LP from by unfold callLP; rw [if_neg (by omega)])
                      clear n0 n1 n2 n3 n4 n5 n6 n7 p8
                      go_wp2_with fail
                      refine HC.out.mono ?_
                      rintro e w1 ⟨rfl, ⟨F1, hx1, hg1⟩, hf1⟩
                      have y2 := hf1.at_ HX2.out (fun q => by have := HLO.out _ q; have := hge2.out; omega)
                      have y1 := hf1.at_ HX1.out (fun q => by have := HLO.out _ q; have := hge1.out; omega)
                      have g3 := cell_of_row w1 b2 3 _ _ _ y2
                      have z3 : w1.frozen? ⟨b2, 3, none⟩ = false := by simp [World.frozen?, y2]
                      have Y2 := hid y2
                      have Y1 := hid y1
                      have HX := hid hx1
                      have HG := hid hg1
                      have HF := hid hf1
                      clear y2 y1 hx1 hg1 hf1 HC
                      go_wp2_with fail
                      have e3 := K.setCell_heap (off := 3) (Y2.out) (.int .i64 (s.restore o.work o.l).1)
                      have hfs : Fr (fun i => i = b2) w1 (w1.setCell ⟨b2, 3, none⟩ (.int .i64 (s.restore o.work o.l).1)) := Fr.setCell (S := fun i => i = b2) (p := ⟨b2, 3, none⟩) (Fr.refl _ w1) (.inl rfl) (.int .i64 (s.restore o.work o.l).1)
                      go_meet
                      case rel =>
                        have hF1 : ∀ i, F1 i → i ≠ b2 := fun i hi q => by
                          rcases HG.out i hi with r | r
                          · have := HLO.out i r; have := hge2.out; omega
                          · have := hlt2.out; omega
                        have hfw : Fr F w w1 := ((Fr.of_below HBI.out (Nat.le_refl _)).mono (fun _ q => q.elim)).trans HF.out (fun i hi => .inl hi)
                        have hnb1 : ¬ F1 b1 := fun hi => by
                          rcases HG.out b1 hi with r | r
                          · have := HLO.out b1 r; have := hge1.out; omega
                          · have := hlt1.out; omega
                        rw [HR.out, HLPJ.out]
                        exact ⟨none, 0, e3, hfs.at_ Y1.out hne.out, ⟨F1, HX.out.fr hfs (fun i hi q => hF1 i hi q), fun i hi => (HG.out i hi).imp id (fun q => Nat.le_trans HBI.out.size q), hnb1, (fun k off e => by cases e)⟩, (fun i x hx => by simp at hx), hfw.trans hfs (fun i hi => .inr (by rw [hi]; exact hge2.out))⟩
                  · have n0 : ¬ o.kind = 0 := by simpa using q0
                    have n1 : ¬ o.kind = 1 := by simpa using q1
                    have n2 : ¬ o.kind = 2 := by simpa using q2
                    have n3 : ¬ o.kind = 3 := by simpa using q3
                    have n4 : ¬ o.kind = 4 := by simpa using q4
                    have n5 : ¬ o.kind = 5 := by simpa using q5
                    have n6 : ¬ o.kind = 6 := by simpa using q6
                    have p7 : o.kind = 7 := by simpa using q7
                    have HR := hid (show callR s o = _ from by unfold callR; rw [if_neg n0, if_neg n1, if_neg n2, if_neg n3, if_neg n4, if_neg n5, if_neg n6, if_pos p7])
                    have HC := hid (dbackout_any HAI.out HAG.out HKK.out HOK.out o.work)
                    have HLPJ := hid (show callLP LP s o = LP from by unfold callLP; rw [if_neg (by omega)])
                    clear n0 n1 n2 n3 n4 n5 n6 p7
                    go_wp2_with fail
                    refine HC.out.mono ?_
                    rintro e w1 ⟨rfl, ⟨F1, hx1, hg1⟩, hf1⟩
                    have y2 := hf1.at_ HX2.out (fun q => by have := HLO.out _ q; have := hge2.out; omega)
                    have y1 := hf1.at_ HX1.out (fun q => by have := HLO.out _ q; have := hge1.out; omega)
                    have g3 := cell_of_row w1 b2 3 _ _ _ y2
                    have z3 : w1.frozen? ⟨b2, 3, none⟩ = false := by simp [World.frozen?, y2]
                    have Y2 := hid y2
                    have Y1 := hid y1
                    have HX := hid hx1
                    have HG := hid hg1
                    have HF := hid hf1
                    clear y2 y1 hx1 hg1 hf1 HC
                    go_wp2_with fail
                    have e3 := K.setCell_heap (off := 3) (Y2.out) (.int .i64 (s.backout o.work).1)
                    have hfs : Fr (fun i => i = b2) w1 (w1.setCell ⟨b2, 3, none⟩ (.int .i64 (s.backout o.work).1)) := Fr.setCell (S := fun i => i = b2) (p := ⟨b2, 3, none⟩) (Fr.refl _ w1) (.inl rfl) (.int .i64 (s.backout o.work).1)
                    go_meet
                    case rel =>
                      have hF1 : ∀ i, F1 i → i ≠ b2 := fun i hi q => by
                        rcases HG.out i hi with r | r
                        · have := HLO.out i r; have := hge2.out; omega
                        · have := hlt2.out; omega
                      have hfw : Fr F w w1 := ((Fr.of_below HBI.out (Nat.le_refl _)).mono (fun _ q => q.elim)).trans HF.out (fun i hi => .inl hi)
                      have hnb1 : ¬ F1 b1 := fun hi => by
                        rcases HG.out b1 hi with r | r
                        · have := HLO.out b1 r; have := hge1.out; omega
                        · have := hlt1.out; omega
                      rw [HR.out, HLPJ.out]
                      exact ⟨none, 0, e3, hfs.at_ Y1.out hne.out, ⟨F1, HX.out.fr hfs (fun i hi q => hF1 i hi q), fun i hi => (HG.out i hi).imp id (fun q => Nat.le_trans HBI.out.size q), hnb1, (fun k off e => by cases e)⟩, (fun i x hx => by simp at hx), hfw.trans hfs (fun i hi => .inr (by rw [hi]; exact hge2.out))⟩
                · have n0 : ¬ o.kind = 0 := by simpa using q0
                  have n1 : ¬ o.kind = 1 := by simpa using q1
                  have n2 : ¬ o.kind = 2 := by simpa using q2
                  have n3 : ¬ o.kind = 3 := by simpa using q3
                  have n4 : ¬ o.kind = 4 := by simpa using q4
                  have n5 : ¬ o.kind = 5 := by simpa using q5
                  have p6 : o.kind = 6 := by simpa using q6
                  have HR := hid (show callR s o = _ from by unfold callR; rw [if_neg n0, if_neg n1, if_neg n2, if_neg n3, if_neg n4, if_neg n5, if_pos p6])
                  have HC := hid (dcommit_any HAI.out HAG.out HKK.out HOK.out o.work)
                  have HLPJ := hid (show callLP LP s o = commitD LP s.k o.work from by unfold callLP; rw [if_pos p6])
                  clear n0 n1 n2 n3 n4 n5 p6
                  go_wp2_with fail
                  refine HC.out.mono ?_
                  rintro e w1 ⟨rfl, ⟨F1, hx1, hg1⟩, hf1⟩
                  have y2 := hf1.at_ HX2.out (fun q => by have := HLO.out _ q; have := hge2.out; omega)
                  have y1 := hf1.at_ HX1.out (fun q => by have := HLO.out _ q; have := hge1.out; omega)
                  have g3 := cell_of_row w1 b2 3 _ _ _ y2
                  have z3 : w1.frozen? ⟨b2, 3, none⟩ = false := by simp [World.frozen?, y2]
                  have Y2 := hid y2
                  have Y1 := hid y1
                  have HX := hid hx1
                  have HG := hid hg1
                  have HF := hid hf1
                  clear y2 y1 hx1 hg1 hf1 HC
                  go_wp2_with fail
                  have e3 := K.setCell_heap (off := 3) (Y2.out) (.int .i64 (s.commit o.work).1)
                  have hfs : Fr (fun i => i = b2) w1 (w1.setCell ⟨b2, 3, none⟩ (.int .i64 (s.commit o.work).1)) := Fr.setCell (S := fun i => i = b2) (p := ⟨b2, 3, none⟩) (Fr.refl _ w1) (.inl rfl) (.int .i64 (s.commit o.work).1)
                  go_meet
                  case rel =>
                    have hF1 : ∀ i, F1 i → i ≠ b2 := fun i hi q => by
                      rcases HG.out i hi with r | r
                      · have := HLO.out i r; have := hge2.out; omega
                      · have := hlt2.out; omega
                    have hfw : Fr F w w1 := ((Fr.of_below HBI.out (Nat.le_refl _)).mono (fun _ q => q.elim)).trans HF.out (fun i hi => .inl hi)
                    have hnb1 : ¬ F1 b1 := fun hi => by
                      rcases HG.out b1 hi with r | r
                      · have := HLO.out b1 r; have := hge1.out; omega
                      · have := hlt1.out; omega
                    rw [HR.out, HLPJ.out]
                    exact ⟨none, 0, e3, hfs.at_ Y1.out hne.out, ⟨F1, HX.out.fr hfs (fun i hi q => hF1 i hi q), fun i hi => (HG.out i hi).imp id (fun q => Nat.le_trans HBI.out.size q), hnb1, (fun k off e => by cases e)⟩, (fun i x hx => by simp at hx), hfw.trans hfs (fun i hi => .inr (by rw [hi]; exact hge2.out))⟩
              · have n0 : ¬ o.kind = 0 := by simpa using q0
                have n1 : ¬ o.kind = 1 := by simpa using q1
                have n2 : ¬ o.kind = 2 := by simpa using q2
                have n3 : ¬ o.kind = 3 := by simpa using q3
                have n4 : ¬ o.kind = 4 := by simpa using q4
                have p5 : o.kind = 5 := by simpa using q5
                have HR := hid (show callR s o = _ from by unfold callR; rw [if_neg n0, if_neg n1, if_neg n2, if_neg n3, if_neg n4, if_pos p5])
                have HC := hid (dprepare_any HAI.out HAG.out HKK.out HOK.out o.work)
                have HLPJ := hid (show callLP LP s o = LP from by unfold callLP; rw [if_neg (by omega)])
                clear n0 n1 n2 n3 n4 p5
                go_wp2_with fail
                refine HC.out.mono ?_
                rintro e w1 ⟨A5, c5, rfl, ⟨F1, hx1, hg1, ho1⟩, hat1, hcap1, hf1⟩
                have y2 := hf1.at_ HX2.out (fun q => by have := HLO.out _ q; have := hge2.out; omega)
                have y1 := hf1.at_ HX1.out (fun q => by have := HLO.out _ q; have := hge1.out; omega)
                have g2 := cell_of_row w1 b2 2 _ _ _ y2
                have z2 : w1.frozen? ⟨b2, 2, none⟩ = false := by simp [World.frozen?, y2]
                have g3 := cell_of_row w1 b2 3 _ _ _ y2
                have z3 : w1.frozen? ⟨b2, 3, none⟩ = false := by simp [World.frozen?, y2]
                have Y2 := hid y2
                have Y1 := hid y1
                have HX := hid hx1
                have HG := hid hg1
                have HF := hid hf1
                have HO := hid ho1
                have HAT := hid hat1
                clear y2 y1 hx1 hg1 hf1 HC ho1 hat1 hcap1
                go_wp2_with fail
                have e2 := K.setCell_heap (off := 2) (Y2.out) (.slice A5 (s.prepare o.work).1.1.length c5)
                have e3 := K.setCell_heap (off := 3) (e2) (.int .i64 (s.prepare o.work).1.2)
                have hfs : Fr (fun i => i = b2) w1 ((w1.setCell ⟨b2, 2, none⟩ (.slice A5 (s.prepare o.work).1.1.length c5)).setCell ⟨b2, 3, none⟩ (.int .i64 (s.prepare o.work).1.2)) := Fr.setCell (S := fun i => i = b2) (p := ⟨b2, 3, none⟩) (Fr.setCell (S := fun i => i = b2) (p := ⟨b2, 2, none⟩) (Fr.refl _ w1) (.inl rfl) (.slice A5 (s.prepare o.work).1.1.length c5)) (.inl rfl) (.int .i64 (s.prepare o.work).1.2)
                go_meet
                case rel =>
                  have hF1 : ∀ i, F1 i → i ≠ b2 := fun i hi q => by
                    rcases HG.out i hi with r | r
                    · have := HLO.out i r; have := hge2.out; omega
                    · have := hlt2.out; omega
                  have hfw : Fr F w w1 := ((Fr.of_below HBI.out (Nat.le_refl _)).mono (fun _ q => q.elim)).trans HF.out (fun i hi => .inl hi)
                  have hnb1 : ¬ F1 b1 := fun hi => by
                    rcases HG.out b1 hi with r | r
                    · have := HLO.out b1 r; have := hge1.out; omega
                    · have := hlt1.out; omega
                  rw [HR.out, HLPJ.out]
                  exact ⟨A5, c5, e3, hfs.at_ Y1.out hne.out, ⟨F1, HX.out.fr hfs (fun i hi q => hF1 i hi q), fun i hi => (HG.out i hi).imp id (fun q => Nat.le_trans HBI.out.size q), hnb1, (fun k off e => ⟨Nat.le_trans HBI.out.size (HO.out k off e).1, (HO.out k off e).2, by have := (HO.out k off e).1; have := hlt1.out; omega⟩)⟩, (row_fr HAT.out hfs (fun k off e q => by have := (HO.out k off e).1; have := hlt2.out; omega)), hfw.trans hfs (fun i hi => .inr (by rw [hi]; exact hge2.out))⟩
            · have n0 : ¬ o.kind = 0 := by simpa using q0
              have n1 : ¬ o.kind = 1 := by simpa using q1
              have n2 : ¬ o.kind = 2 := by simpa using q2
              have n3 : ¬ o.kind = 3 := by simpa using q3
              have p4 : o.kind = 4 := by simpa using q4
              have HR := hid (show callR s o = _ from by unfold callR; rw [if_neg n0, if_neg n1, if_neg n2, if_neg n3, if_pos p4])
              have HC := hid (dpop_any HAI.out HAG.out HKK.out HOK.out o.work)
              have HLPJ := hid (show callLP LP s o = LP from by unfold callLP; rw [if_neg (by omega)])
              clear n0 n1 n2 n3 p4
              go_wp2_with fail
              refine HC.out.mono ?_
              rintro e w1 ⟨rfl, ⟨F1, hx1, hg1⟩, hf1⟩
              have y2 := hf1.at_ HX2.out (fun q => by have := HLO.out _ q; have := hge2.out; omega)
              have y1 := hf1.at_ HX1.out (fun q => by have := HLO.out _ q; have := hge1.out; omega)
              have g0 := cell_of_row w1 b2 0 _ _ _ y2
              have z0 : w1.frozen? ⟨b2, 0, none⟩ = false := by simp [World.frozen?, y2]
              have g3 := cell_of_row w1 b2 3 _ _ _ y2
              have z3 : w1.frozen? ⟨b2, 3, none⟩ = false := by simp [World.frozen?, y2]
              have Y2 := hid y2
              have Y1 := hid y1
              have HX := hid hx1
              have HG := hid hg1
              have HF := hid hf1
              clear y2 y1 hx1 hg1 hf1 HC
              go_wp2_with fail
              have e0 := K.setCell_heap (off := 0) (Y2.out) (.int .u64 (s.pop o.work).1.1)
              have e3 := K.setCell_heap (off := 3) (e0) (.int .i64 (s.pop o.work).1.2)
              have hfs : Fr (fun i => i = b2) w1 ((w1.setCell ⟨b2, 0, none⟩ (.int .u64 (s.pop o.work).1.1)).setCell ⟨b2, 3, none⟩ (.int .i64 (s.pop o.work).1.2)) := Fr.setCell (S := fun i => i = b2) (p := ⟨b2, 3, none⟩) (Fr.setCell (S := fun i => i = b2) (p := ⟨b2, 0, none⟩) (Fr.refl _ w1) (.inl rfl) (.int .u64 (s.pop o.work).1.1)) (.inl rfl) (.int .i64 (s.pop o.work).1.2)
              go_meet
              case rel =>
                have hF1 : ∀ i, F1 i → i ≠ b2 := fun i hi q => by
                  rcases HG.out i hi with r | r
                  · have := HLO.out i r; have := hge2.out; omega
                  · have := hlt2.out; omega
                have hfw : Fr F w w1 := ((Fr.of_below HBI.out (Nat.le_refl _)).mono (fun _ q => q.elim)).trans HF.out (fun i hi => .inl hi)
                have hnb1 : ¬ F1 b1 := fun hi => by
                  rcases HG.out b1 hi with r | r
                  · have := HLO.out b1 r; have := hge1.out; omega
                  · have := hlt1.out; omega
                rw [HR.out, HLPJ.out]
                exact ⟨none, 0, e3, hfs.at_ Y1.out hne.out, ⟨F1, HX.out.fr hfs (fun i hi q => hF1 i hi q), fun i hi => (HG.out i hi).imp id (fun q => Nat.le_trans HBI.out.size q), hnb1, (fun k off e => by cases e)⟩, (fun i x hx => by simp at hx), hfw.trans hfs (fun i hi => .inr (by rw [hi]; exact hge2.out))⟩
          · have n0 : ¬ o.kind = 0 := by simpa using q0
            have n1 : ¬ o.kind = 1 := by simpa using q1
            have n2 : ¬ o.kind = 2 := by simpa using q2
            have p3 : o.kind = 3 := by simpa using q3
            have HR := hid (show callR s o = _ from by unfold callR; rw [if_neg n0, if_neg n1, if_neg n2, if_pos p3])
            have HC := hid (dpush_any HAI.out HAG.out HKK.out HOK.out o.work o.val)
            have HLPJ := hid (show callLP LP s o = LP from by unfold callLP; rw [if_neg (by omega)])
            clear n0 n1 n2 p3
            go_wp2_with fail
            refine HC.out.mono ?_
            rintro e w1 ⟨rfl, ⟨F1, hx1, hg1⟩, hf1⟩
            have y2 := hf1.at_ HX2.out (fun q => by have := HLO.out _ q; have := hge2.out; omega)
            have y1 := hf1.at_ HX1.out (fun q => by have := HLO.out _ q; have := hge1.out; omega)
            have g3 := cell_of_row w1 b2 3 _ _ _ y2
            have z3 : w1.frozen? ⟨b2, 3, none⟩ = false := by simp [World.frozen?, y2]
            have Y2 := hid y2
            have Y1 := hid y1
            have HX := hid hx1
            have HG := hid hg1
            have HF := hid hf1
            clear y2 y1 hx1 hg1 hf1 HC
            go_wp2_with fail
            have e3 := K.setCell_heap (off := 3) (Y2.out) (.int .i64 (s.push o.work o.val).1)
            have hfs : Fr (fun i => i = b2) w1 (w1.setCell ⟨b2, 3, none⟩ (.int .i64 (s.push o.work o.val).1)) := Fr.setCell (S := fun i => i = b2) (p := ⟨b2, 3, none⟩) (Fr.refl _ w1) (.inl rfl) (.int .i64 (s.push o.work o.val).1)
            go_meet
            case rel =>
              have hF1 : ∀ i, F1 i → i ≠ b2 := fun i hi q => by
                rcases HG.out i hi with r | r
                · have := HLO.out i r; have := hge2.out; omega
                · have := hlt2.out; omega
              have hfw : Fr F w w1 := ((Fr.of_below HBI.out (Nat.le_refl _)).mono (fun _ q => q.elim)).trans HF.out (fun i hi => .inl hi)
              have hnb1 : ¬ F1 b1 := fun hi => by
                rcases HG.out b1 hi with r | r
                · have := HLO.out b1 r; have := hge1.out; omega
                · have := hlt1.out; omega
              rw [HR.out, HLPJ.out]
              exact ⟨none, 0, e3, hfs.at_ Y1.out hne.out, ⟨F1, HX.out.fr hfs (fun i hi q => hF1 i hi q), fun i hi => (HG.out i hi).imp id (fun q => Nat.le_trans HBI.out.size q), hnb1, (fun k off e => by cases e)⟩, (fun i x hx => by simp at hx), hfw.trans hfs (fun i hi => .inr (by rw [hi]; exact hge2.out))⟩
        · have n0 : ¬ o.kind = 0 := by simpa using q0
          have n1 : ¬ o.kind = 1 := by simpa using q1
          have p2 : o.kind = 2 := by simpa using q2
          have HR := hid (show callR s o = _ from by unfold callR; rw [if_neg n0, if_neg n1, if_pos p2])
          have HC := hid (dchange_any HAI.out HAG.out HKK.out HOK.out o.work ⟨2, o.key, 0⟩)
          have HLPJ := hid (show callLP LP s o = LP from by unfold callLP; rw [if_neg (by omega)])
          clear n0 n1 p2
          go_wp2_with fail
          refine HC.out.mono ?_
          rintro e w1 ⟨rfl, ⟨F1, hx1, hg1⟩, hf1⟩
          have y2 := hf1.at_ HX2.out (fun q => by have := HLO.out _ q; have := hge2.out; omega)
          have y1 := hf1.at_ HX1.out (fun q => by have := HLO.out _ q; have := hge1.out; omega)
          have g3 := cell_of_row w1 b2 3 _ _ _ y2
          have z3 : w1.frozen? ⟨b2, 3, none⟩ = false := by simp [World.frozen?, y2]
          have Y2 := hid y2
          have Y1 := hid y1
          have HX := hid hx1
          have HG := hid hg1
          have HF := hid hf1
          clear y2 y1 hx1 hg1 hf1 HC
          go_wp2_with fail
          have e3 := K.setCell_heap (off := 3) (Y2.out) (.int .i64 (s.change o.work ⟨2, o.key, 0⟩).1)
          have hfs : Fr (fun i => i = b2) w1 (w1.setCell ⟨b2, 3, none⟩ (.int .i64 (s.change o.work ⟨2, o.key, 0⟩).1)) := Fr.setCell (S := fun i => i = b2) (p := ⟨b2, 3, none⟩) (Fr.refl _ w1) (.inl rfl) (.int .i64 (s.change o.work ⟨2, o.key, 0⟩).1)
          go_meet
          case rel =>
            have hF1 : ∀ i, F1 i → i ≠ b2 := fun i hi q => by
              rcases HG.out i hi with r | r
              · have := HLO.out i r; have := hge2.out; omega
              · have := hlt2.out; omega
            have hfw : Fr F w w1 := ((Fr.of_below HBI.out (Nat.le_refl _)).mono (fun _ q => q.elim)).trans HF.out (fun i hi => .inl hi)
            have hnb1 : ¬ F1 b1 := fun hi => by
              rcases HG.out b1 hi with r | r
              · have := HLO.out b1 r; have := hge1.out; omega
              · have := hlt1.out; omega
            rw [HR.out, HLPJ.out]
            exact ⟨none, 0, e3, hfs.at_ Y1.out hne.out, ⟨F1, HX.out.fr hfs (fun i hi q => hF1 i hi q), fun i hi => (HG.out i hi).imp id (fun q => Nat.le_trans HBI.out.size q), hnb1, (fun k off e => by cases e)⟩, (fun i x hx => by simp at hx), hfw.trans hfs (fun i hi => .inr (by rw [hi]; exact hge2.out))⟩
      · have n0 : ¬ o.kind = 0 := by simpa using q0
        have p1 : o.kind = 1 := by simpa using q1
        have HR := hid (show callR s o = _ from by unfold callR; rw [if_neg n0, if_pos p1])
        have HC := hid (dchange_any HAI.out HAG.out HKK.out HOK.out o.work ⟨1, o.key, o.val⟩)
        have HLPJ := hid (show callLP LP s o = LP from by unfold callLP; rw [if_neg (by omega)])
        clear n0 p1
        go_wp2_with fail
        refine HC.out.mono ?_
        rintro e w1 ⟨rfl, ⟨F1, hx1, hg1⟩, hf1⟩
        have y2 := hf1.at_ HX2.out (fun q => by have := HLO.out _ q; have := hge2.out; omega)
        have y1 := hf1.at_ HX1.out (fun q => by have := HLO.out _ q; have := hge1.out; omega)
        have g3 := cell_of_row w1 b2 3 _ _ _ y2
        have z3 : w1.frozen? ⟨b2, 3, none⟩ = false := by simp [World.frozen?, y2]
        have Y2 := hid y2
        have Y1 := hid y1
        have HX := hid hx1
        have HG := hid hg1
        have HF := hid hf1
        clear y2 y1 hx1 hg1 hf1 HC
        go_wp2_with fail
        have e3 := K.setCell_heap (off := 3) (Y2.out) (.int .i64 (s.change o.work ⟨1, o.key, o.val⟩).1)
        have hfs : Fr (fun i => i = b2) w1 (w1.setCell ⟨b2, 3, none⟩ (.int .i64 (s.change o.work ⟨1, o.key, o.val⟩).1)) := Fr.setCell (S := fun i => i = b2) (p := ⟨b2, 3, none⟩) (Fr.refl _ w1) (.inl rfl) (.int .i64 (s.change o.work ⟨1, o.key, o.val⟩).1)
        go_meet
        case rel =>
          have hF1 : ∀ i, F1 i → i ≠ b2 := fun i hi q => by
            rcases HG.out i hi with r | r
            · have := HLO.out i r; have := hge2.out; omega
            · have := hlt2.out; omega
          have hfw : Fr F w w1 := ((Fr.of_below HBI.out (Nat.le_refl _)).mono (fun _ q => q.elim)).trans HF.out (fun i hi => .inl hi)
          have hnb1 : ¬ F1 b1 := fun hi => by
            rcases HG.out b1 hi with r | r
            · have := HLO.out b1 r; have := hge1.out; omega
            · have := hlt1.out; omega
          rw [HR.out, HLPJ.out]
          exact ⟨none, 0, e3, hfs.at_ Y1.out hne.out, ⟨F1, HX.out.fr hfs (fun i hi q => hF1 i hi q), fun i hi => (HG.out i hi).imp id (fun q => Nat.le_trans HBI.out.size q), hnb1, (fun k off e => by cases e)⟩, (fun i x hx => by simp at hx), hfw.trans hfs (fun i hi => .inr (by rw [hi]; exact hge2.out))⟩
    · have p0 : o.kind = 0 := by simpa using q0
      have HR := hid (show callR s o = _ from by unfold callR; rw [if_pos p0])
      have HC := hid (dget_any HAI.out HAG.out HKK.out HOK.out o.work o.key)
      have HLPJ := hid (show callLP LP s o = LP from by unfold callLP; rw [if_neg (by omega)])
      clear p0
      go_wp2_with fail
      refine HC.out.mono ?_
      rintro e w1 ⟨rfl, ⟨F1, hx1, hg1⟩, hf1⟩
      have y2 := hf1.at_ HX2.out (fun q => by have := HLO.out _ q; have := hge2.out; omega)
      have y1 := hf1.at_ HX1.out (fun q => by have := HLO.out _ q; have := hge1.out; omega)
      have g0 := cell_of_row w1 b2 0 _ _ _ y2
      have z0 : w1.frozen? ⟨b2, 0, none⟩ = false := by simp [World.frozen?, y2]
      have g1 := cell_of_row w1 b2 1 _ _ _ y2
      have z1 : w1.frozen? ⟨b2, 1, none⟩ = false := by simp [World.frozen?, y2]
      have g3 := cell_of_row w1 b2 3 _ _ _ y2
      have z3 : w1.frozen? ⟨b2, 3, none⟩ = false := by simp [World.frozen?, y2]
      have Y2 := hid y2
      have Y1 := hid y1
      have HX := hid hx1
      have HG := hid hg1
      have HF := hid hf1
      clear y2 y1 hx1 hg1 hf1 HC
      go_wp2_with fail
      have e0 := K.setCell_heap (off := 0) (Y2.out) (.int .u64 (s.get o.work o.key).1.1)
      have e1 := K.setCell_heap (off := 1) (e0) (.bool (s.get o.work o.key).1.2.1)
      have e3 := K.setCell_heap (off := 3) (e1) (.int .i64 (s.get o.work o.key).1.2.2)
      have hfs : Fr (fun i => i = b2) w1 (((w1.setCell ⟨b2, 0, none⟩ (.int .u64 (s.get o.work o.key).1.1)).setCell ⟨b2, 1, none⟩ (.bool (s.get o.work o.key).1.2.1)).setCell ⟨b2, 3, none⟩ (.int .i64 (s.get o.work o.key).1.2.2)) := Fr.setCell (S := fun i => i = b2) (p := ⟨b2, 3, none⟩) (Fr.setCell (S := fun i => i = b2) (p := ⟨b2, 1, none⟩) (Fr.setCell (S := fun i => i = b2) (p := ⟨b2, 0, none⟩) (Fr.refl _ w1) (.inl rfl) (.int .u64 (s.get o.work o.key).1.1)) (.inl rfl) (.bool (s.get o.work o.key).1.2.1)) (.inl rfl) (.int .i64 (s.get o.work o.key).1.2.2)
      go_meet
      case rel =>
        have hF1 : ∀ i, F1 i → i ≠ b2 := fun i hi q => by
          rcases HG.out i hi with r | r
          · have := HLO.out i r; have := hge2.out; omega
          · have := hlt2.out; omega
        have hfw : Fr F w w1 := ((Fr.of_below HBI.out (Nat.le_refl _)).mono (fun _ q => q.elim)).trans HF.out (fun i hi => .inl hi)
        have hnb1 : ¬ F1 b1 := fun hi => by
          rcases HG.out b1 hi with r | r
          · have := HLO.out b1 r; have := hge1.out; omega
          · have := hlt1.out; omega
        rw [HR.out, HLPJ.out]
        exact ⟨none, 0, e3, hfs.at_ Y1.out hne.out, ⟨F1, HX.out.fr hfs (fun i hi q => hF1 i hi q), fun i hi => (HG.out i hi).imp id (fun q => Nat.le_trans HBI.out.size q), hnb1, (fun k off e => by cases e)⟩, (fun i x hx => by simp at hx), hfw.trans hfs (fun i hi => .inr (by rw [hi]; exact hge2.out))⟩
  case rest =>
    obtain ⟨A, c, y2, y1, ⟨F1, hx1, hg1, hnb1, ho1⟩, hat1, hf1⟩ := hcut
    have HX := hid hx1
    have HG := hid hg1
    have HO := hid ho1
    have HAT := hid hat1
    have HF := hid hf1
    clear hx1 hg1 ho1 hat1 hf1
    have g0 := cell_of_row wc b2 0 _ _ _ y2
    have r0 := cell_of_row wc b1 0 _ _ _ y1
    have z0 : wc.frozen? ⟨b1, 0, none⟩ = false := by simp [World.frozen?, y1]
    have g1 := cell_of_row wc b2 1 _ _ _ y2
    have r1 := cell_of_row wc b1 1 _ _ _ y1
    have z1 : wc.frozen? ⟨b1, 1, none⟩ = false := by simp [World.frozen?, y1]
    have g2 := cell_of_row wc b2 2 _ _ _ y2
    have r2 := cell_of_row wc b1 2 _ _ _ y1
    have z2 : wc.frozen? ⟨b1, 2, none⟩ = false := by simp [World.frozen?, y1]
    have g3 := cell_of_row wc b2 3 _ _ _ y2
    have r3 := cell_of_row wc b1 3 _ _ _ y1
    have z3 : wc.frozen? ⟨b1, 3, none⟩ = false := by simp [World.frozen?, y1]
    have Y1 := hid y1
    clear y1 y2 k0 k1 k2 k3 k4
    go_wp2_with fail
    have e0 := K.setCell_heap (off := 0) (Y1.out) (.int .u64 (callR s o).1.v)
    have e1 := K.setCell_heap (off := 1) (e0) (.bool (callR s o).1.t)
    have e2 := K.setCell_heap (off := 2) (e1) (.slice A (callR s o).1.l.length c)
    have e3 := K.setCell_heap (off := 3) (e2) (.int .i64 (callR s o).1.e)
    have e4 : ((((wc.setCell ⟨b1, 0, none⟩ (.int .u64 (callR s o).1.v)).setCell ⟨b1, 1, none⟩ (.bool (callR s o).1.t)).setCell ⟨b1, 2, none⟩ (.slice A (callR s o).1.l.length c)).setCell ⟨b1, 3, none⟩ (.int .i64 (callR s o).1.e)).heap[b1]? = some (.cells #[.int .u64 (callR s o).1.v, .bool (callR s o).1.t, .slice A (callR s o).1.l.length c, .int .i64 (callR s o).1.e] 47 (0, 0)) := e3
    have hfs : Fr (fun i => i = b1) wc ((((wc.setCell ⟨b1, 0, none⟩ (.int .u64 (callR s o).1.v)).setCell ⟨b1, 1, none⟩ (.bool (callR s o).1.t)).setCell ⟨b1, 2, none⟩ (.slice A (callR s o).1.l.length c)).setCell ⟨b1, 3, none⟩ (.int .i64 (callR s o).1.e)) := Fr.setCell (S := fun i => i = b1) (p := ⟨b1, 3, none⟩) (Fr.setCell (S := fun i => i = b1) (p := ⟨b1, 2, none⟩) (Fr.setCell (S := fun i => i = b1) (p := ⟨b1, 1, none⟩) (Fr.setCell (S := fun i => i = b1) (p := ⟨b1, 0, none⟩) (Fr.refl _ wc) (.inl rfl) (.int .u64 (callR s o).1.v)) (.inl rfl) (.bool (callR s o).1.t)) (.inl rfl) (.slice A (callR s o).1.l.length c)) (.inl rfl) (.int .i64 (callR s o).1.e)
    refine bodyPost_ret (results_cell_row rfl _ _ b1 47 _ (0, 0) _ rfl e4 Tryz.underlying47 rfl (by kernel_rfl)) rfl ?_
    exact ⟨A, c, rfl, ⟨F1, HX.out.fr hfs (fun i hi q => hnb1 (q ▸ hi)), HG.out, fun k off e => ⟨(HO.out k off e).1, (HO.out k off e).2.1⟩⟩, row_fr HAT.out hfs (fun k off e q => (HO.out k off e).2.2 q), HF.out.trans hfs (fun i hi => .inr (by rw [hi]; exact hge1.out))⟩
end Go.Proofs.YtdejbinmnoabeaaGreat
namespace Go.Proofs.YtdejbinmnoabeaaGreat
open Go.RowKit Go.Mine Go.Proofs.YtdejbinmnoabeaaGreatW.PrintWords
set_option linter.unusedVariables false
set_option linter.unusedSimpArgs false
def encP (p : Int × Int) : List Value := [.int .i64 p.1, .int .u64 p.2]
def eP : Q.Enc (Int × Int) := ⟨2, encP, fun _ => rfl, fun x u hu => by simp [encP] at hu; rcases hu with rfl | rfl <;> rfl⟩
abbrev PairAt (w : World) (B : Nat) (A : Option Addr) (l : List (Int × Int)) : Prop := Q.RowAt encP 2 w B A l
abbrev UAt (w : World) (B : Nat) (A : Option Addr) (l : List Int) : Prop := Q.UAt w B A l
structure Img where
  P : List (Int × Int)
  L : List Int
  nx : Int
def ImgAt (w : World) (B : Nat) (v : Value) (m : Img) : Prop :=
  ∃ A1 c1 A2 c2, v = .agg #[.slice A1 m.P.length c1, .slice A2 m.L.length c2, .int .i64 m.nx] ∧ PairAt w B A1 m.P ∧ UAt w B A2 m.L ∧ m.P.length ≤ c1 ∧ m.L.length ≤ c2
theorem ImgAt.below {w w' : World} {B : Nat} {v : Value} {m : Img} (h : ImgAt w B v m) (hb : Below B w w') : ImgAt w' B v m := by
  obtain ⟨A1, c1, A2, c2, e, h1, h2, h3, h4⟩ := h
  exact ⟨A1, c1, A2, c2, e, Q.RowAt.below h1 hb, Q.RowAt.below h2 hb, h3, h4⟩
theorem ImgAt.up {w : World} {B B' : Nat} {v : Value} {m : Img} (h : ImgAt w B v m) (hb : B ≤ B') : ImgAt w B' v m := by
  obtain ⟨A1, c1, A2, c2, e, h1, h2, h3, h4⟩ := h
  exact ⟨A1, c1, A2, c2, e, Q.RowAt.up h1 hb, Q.RowAt.up h2 hb, h3, h4⟩
def pairsK (k : KS) (i : Nat) : List (Int × Int) := (fillL k.vs k.th i).map (fun c => (c.key, c.val))
def imgR (s : RM) : Img := ⟨pairsK s.k 16, s.q.its.map (·.val), s.q.gv + 1⟩
theorem pairsK_true {k : KS} {i : Nat} (h : k.th.getD i false = true) : pairsK k (i + 1) = pairsK k i ++ [((i : Int), k.vs.getD i 0)] := by
  unfold pairsK fillL
  rw [fillP_true h, List.map_append, List.map_append]
  rfl
theorem pairsK_false {k : KS} {i : Nat} (h : k.th.getD i false = false) : pairsK k (i + 1) = pairsK k i := by
  unfold pairsK fillL
  rw [fillP_false h]
theorem pairsK_len (k : KS) (i : Nat) : (pairsK k i).length ≤ i := by
  unfold pairsK fillL fillP
  rw [List.length_map, List.length_map]
  exact Nat.le_trans (List.length_filter_le _ _) (by simp)
theorem info107 : (Tryz.prog.info? 107).map (fun i => (i.zero, i.size, i.bytes)) = some (some (.agg #[.int .i64 0, .int .u64 0]), 2, 16) := by kernel_rfl
theorem row_keep {w w1 : World} {base : Nat} {v : Value} {l : List (Int × Int)} (h : eP.kd.R 107 w base (fun _ => True) v l) (hm : ∀ k, v.ownBlock = some k → w1.heap[k]? = w.heap[k]?) : eP.kd.R 107 w1 base (fun _ => True) v l := by
  obtain ⟨h0, inner, ho, hr⟩ := h
  exact ⟨h0, inner, own_move ho hm, hr⟩
def ImgNew (B0 : Nat) (w : World) (v : Value) (m : Img) : Prop :=
  ∃ A1 c1 A2 c2, v = .agg #[.slice A1 m.P.length c1, .slice A2 m.L.length c2, .int .i64 m.nx] ∧ PairAt w w.heap.size A1 m.P ∧ UAt w w.heap.size A2 m.L ∧ m.P.length ≤ c1 ∧ m.L.length ≤ c2 ∧ (∀ k off, A1 = some ⟨k, off, none⟩ → B0 ≤ k) ∧ (∀ k off, A2 = some ⟨k, off, none⟩ → B0 ≤ k)
theorem ImgNew.at_ {B0 : Nat} {w : World} {v : Value} {m : Img} (h : ImgNew B0 w v m) : ImgAt w w.heap.size v m := by
  obtain ⟨A1, c1, A2, c2, e, h1, h2, h3, h4, _⟩ := h
  exact ⟨A1, c1, A2, c2, e, h1, h2, h3, h4⟩
end Go.Proofs.YtdejbinmnoabeaaGreat
namespace Go.Proofs.YtdejbinmnoabeaaGreat
open Go.RowKit Go.Mine Go.Proofs.YtdejbinmnoabeaaGreatW.PrintWords
set_option linter.unusedVariables false
set_option linter.unusedSimpArgs false
def ImS (w0 w : World) (F : Nat → Prop) (b : Nat) (k : KS) (q : QS) (f0 f1 : Int → Bool) : Prop := RX F w b k q f0 f1 ∧ Below w0.heap.size w0 w
theorem ImS.setc {w0 w : World} {F : Nat → Prop} {b : Nat} {k : KS} {q : QS} {f0 f1 : Int → Bool} {p : Addr} {u : Value} (hp : w0.heap.size ≤ p.block) (hF : ∀ i, F i → i < w0.heap.size) (h : ImS w0 w F b k q f0 f1) : ImS w0 (w.setCell p u) F b k q f0 f1 := by
  have hf : Fr (fun i => i = p.block) w (w.setCell p u) := Fr.setCell (S := fun i => i = p.block) (p := p) (Fr.refl _ w) (.inl rfl) u
  exact ⟨h.1.fr hf (fun i hi q => by have := hF i hi; omega), h.2.trans (hf.below h.2.size (fun k hk q => by omega))⟩
theorem ImS.step {w0 w w' : World} {F : Nat → Prop} {b : Nat} {k : KS} {q : QS} {f0 f1 : Int → Bool} (hb : Below w.heap.size w w') (h : ImS w0 w F b k q f0 f1) : ImS w0 w' F b k q f0 f1 :=
  ⟨h.1.below hb, h.2.trans (hb.mono h.2.size)⟩
theorem ImS.alloc {w0 w : World} {F : Nat → Prop} {b : Nat} {k : KS} {q : QS} {f0 f1 : Int → Bool} (o : Obj) (h : ImS w0 w F b k q f0 f1) : ImS w0 (w.alloc o) F b k q f0 f1 := h.step ((Below.refl _ _).alloc (Nat.le_refl _) _)
set_option maxRecDepth 100000 in
set_option maxHeartbeats 4000000 in
theorem image_any {F : Nat → Prop} {w : World} {b : Nat} {k : KS} {q : QS} {f0 f1 : Int → Bool} (h : RX F w b k q f0 f1) :
    Calls Tryz.prog 14 #[.pointer (some ⟨b, 0, none⟩)] w fun e w' => ∃ v, e = .returned v ∧ ImgNew w.heap.size w' v (imgR ⟨k, q⟩) ∧ Below w.heap.size w w' := by
  have hqok := h.qok
  have hg0 := hqok.g0
  have hg1 := hqok.g1
  have hsz := hqok.sz
  obtain ⟨L, hL⟩ : ∃ L, q.its.map (·.val) = L := ⟨_, rfl⟩
  have hN0 : L.length ≤ 16 := by rw [← hL, List.length_map]; omega
  have K1 : Hid (∀ w0 w', ImS w0 w' F b k q f0 f1 → Calls Tryz.prog 42 #[.pointer (some ⟨b, 34, none⟩)] w' fun e w'' => ∃ A c, e = .returned (.slice A L.length c) ∧ Q.FR Q.eU 39 w'' (.slice A L.length c) L ∧ (∀ k, (Value.slice A L.length c).ownBlock = some k → w'.heap.size ≤ k) ∧ Below w'.heap.size w' w'') := hid (fun w0 w' h => by
    obtain ⟨FQ, Z, _, hq, _⟩ := h.1.qu
    refine (Q.values_any hq (by omega)).mono ?_
    rintro e w'' ⟨v, rfl, hr, ho, hb⟩
    rw [hL] at hr
    obtain ⟨A, c, rfl⟩ := Kd.R_slice hr
    exact ⟨A, c, rfl, hr, ho, hb⟩)
  have K2 : Hid (∀ w0 w', ImS w0 w' F b k q f0 f1 → Calls Tryz.prog 43 #[.pointer (some ⟨b, 34, none⟩)] w' fun e w'' => e = .returned (.int .i64 (q.gv + 1)) ∧ w' = w'') := hid (fun w0 w' h => by
    obtain ⟨FQ, Z, _, hq, _⟩ := h.1.qu
    exact Q.next_any hq (by omega) (by omega))
  have HL := hid hL
  clear hL hqok hg0 hg1 hsz
  have hba : Below w.heap.size w (w.alloc (.cells #[.slice none 0 0, .slice none 0 0, .int .i64 0] 58)) := (Below.refl _ _).alloc (Nat.le_refl _) _
  have hS : ImS (w.alloc (.cells #[.slice none 0 0, .slice none 0 0, .int .i64 0] 58)) (w.alloc (.cells #[.slice none 0 0, .slice none 0 0, .int .i64 0] 58)) F b k q f0 f1 := ⟨h.below hba, Below.refl _ _⟩
  have hbx : (w.alloc (.cells #[.slice none 0 0, .slice none 0 0, .int .i64 0] 58)).heap[w.heap.size]? = some (.cells #[.slice none 0 0, .slice none 0 0, .int .i64 0] 58 (0, 0)) := (MapKept.heap_alloc w _).1
  have HBX := hid hbx
  have HBXL : Hid (w.heap.size < (w.alloc (.cells #[.slice none 0 0, .slice none 0 0, .int .i64 0] 58)).heap.size) := hid (by simp)
  have HFW : Hid (∀ i, F i → i < (w.alloc (.cells #[.slice none 0 0, .slice none 0 0, .int .i64 0] 58)).heap.size) := hid (fun i hi => Nat.lt_trans (h.fb i hi) HBXL.out)
  have HBA := hid hba
  clear hbx h hba
  go_enter Tryz.func14, Tryz.ntmps14
  go_wp2_with fail
  generalize (w.alloc (.cells #[.slice none 0 0, .slice none 0 0, .int .i64 0] 58)) = wa at *
  have HLE : Hid (wa.heap.size ≤ wa.heap.size) := hid (Nat.le_refl _)
  go_region_held3 (fun w' => ImS wa w' F b k q f0 f1) (first | exact ImS.step (Q.bd1 _) (by assumption) | exact ImS.step (Q.bdN _ _) (by assumption) | exact ImS.step (by assumption) (by assumption) | exact ImS.alloc _ (by assumption) | exact ImS.alloc _ (by assumption : Hid (ImS wa _ F b k q f0 f1)).out | exact ImS.setc HLE.out HFW.out (ImS.setc HLE.out HFW.out (ImS.setc HLE.out HFW.out (by assumption))) | assumption) (first
    | (go_at_call 42; refine (K1.out _ _ (by assumption)).mono ?_; rintro e w5 ⟨A5, c5, rfl, u5, ho5, f5⟩; have S5 : Hid (ImS wa w5 F b k q f0 f1) := hid (ImS.step f5 (by assumption)); (try (have z := (f5.block wa.heap.size (by simp)).trans (MapKept.heap_alloc wa.drew (.cells #[.slice none 0 0, .slice none 0 0, .int .i64 0] 58)).1; have z0 := cell_of_row w5 _ 0 _ _ _ z; have z1 := cell_of_row w5 _ 1 _ _ _ z; have z2 := cell_of_row w5 _ 2 _ _ _ z; have y0 : w5.frozen? ⟨wa.heap.size, 0, none⟩ = false := (by simp [World.frozen?, z]); have y1 : w5.frozen? ⟨wa.heap.size, 1, none⟩ = false := (by simp [World.frozen?, z]); have y2 : w5.frozen? ⟨wa.heap.size, 2, none⟩ = false := (by simp [World.frozen?, z]))))
    | (go_at_call 43; refine (K2.out _ _ (by assumption)).mono ?_; rintro e w6 ⟨rfl, rfl⟩))
  all_goals
    first
      | (change Exit.then _ _ Exit.normal _ (w5.alloc (.cells #[.slice none 0 0, .slice A5 L.length c5, .int .i64 (q.gv + 1)] 58))
         have hblk : (w5.alloc (.cells #[.slice none 0 0, .slice A5 L.length c5, .int .i64 (q.gv + 1)] 58)).heap[w5.heap.size]? = some (.cells #[.slice none 0 0, .slice A5 L.length c5, .int .i64 (q.gv + 1)] 58 (0, 0)) := (MapKept.heap_alloc w5 _).1
         have hbe : Below w5.heap.size w5 (w5.alloc (.cells #[.slice none 0 0, .slice A5 L.length c5, .int .i64 (q.gv + 1)] 58)) := (Below.refl _ _).alloc (Nat.le_refl _) _
         have hu5 : Q.FR Q.eU 39 (w5.alloc (.cells #[.slice none 0 0, .slice A5 L.length c5, .int .i64 (q.gv + 1)] 58)) (.slice A5 L.length c5) L := u5.move (fun k hk => hbe.block k (u5.lt hk))
         have hS5 : ImS wa (w5.alloc (.cells #[.slice none 0 0, .slice A5 L.length c5, .int .i64 (q.gv + 1)] 58)) F b k q f0 f1 := ImS.alloc _ S5.out
         have hbx : wa.heap.size ≤ w5.heap.size := S5.out.2.size
         have hlow5 : ∀ k, (Value.slice A5 L.length c5).ownBlock = some k → wa.heap.size ≤ k := fun k hk => by have h := ho5 k hk; first | exact h | (simp at h; omega)
         clear hbe u5 ho5 f5 S5
         (try clear z0 z1 z2 y0 y1 y2)
         (try clear z)
         generalize (w5.alloc (.cells #[.slice none 0 0, .slice A5 L.length c5, .int .i64 (q.gv + 1)] 58)) = wz at *
         generalize w5.heap.size = bx at *)
      | (have e1 := K.setCell_heap (off := 0) z (.slice none 0 0)
         have e2 := K.setCell_heap (off := 1) e1 (.slice A5 L.length c5)
         have hblk : (((w5.setCell ⟨wa.heap.size, 0, none⟩ (.slice none 0 0)).setCell ⟨wa.heap.size, 1, none⟩ (.slice A5 L.length c5)).setCell ⟨wa.heap.size, 2, none⟩ (.int .i64 (q.gv + 1))).heap[wa.heap.size]? = some (.cells #[.slice none 0 0, .slice A5 L.length c5, .int .i64 (q.gv + 1)] 58 (0, 0)) := K.setCell_heap (off := 2) e2 (.int .i64 (q.gv + 1))
         have hfr : Fr (fun i => i = wa.heap.size) w5 (((w5.setCell ⟨wa.heap.size, 0, none⟩ (.slice none 0 0)).setCell ⟨wa.heap.size, 1, none⟩ (.slice A5 L.length c5)).setCell ⟨wa.heap.size, 2, none⟩ (.int .i64 (q.gv + 1))) := Fr.setCell (S := fun i => i = wa.heap.size) (p := ⟨wa.heap.size, 2, none⟩) (Fr.setCell (S := fun i => i = wa.heap.size) (p := ⟨wa.heap.size, 1, none⟩) (Fr.setCell (S := fun i => i = wa.heap.size) (p := ⟨wa.heap.size, 0, none⟩) (Fr.refl _ w5) (.inl rfl) _) (.inl rfl) _) (.inl rfl) _
         have hu5 : Q.FR Q.eU 39 (((w5.setCell ⟨wa.heap.size, 0, none⟩ (.slice none 0 0)).setCell ⟨wa.heap.size, 1, none⟩ (.slice A5 L.length c5)).setCell ⟨wa.heap.size, 2, none⟩ (.int .i64 (q.gv + 1))) (.slice A5 L.length c5) L := u5.move (fun k hk => hfr.block k (u5.lt hk) (fun q => by have := ho5 k hk; simp at this; omega))
         have hS5 : ImS wa (((w5.setCell ⟨wa.heap.size, 0, none⟩ (.slice none 0 0)).setCell ⟨wa.heap.size, 1, none⟩ (.slice A5 L.length c5)).setCell ⟨wa.heap.size, 2, none⟩ (.int .i64 (q.gv + 1))) F b k q f0 f1 := ImS.setc HLE.out HFW.out (ImS.setc HLE.out HFW.out (ImS.setc HLE.out HFW.out S5.out))
         have hbx : wa.heap.size ≤ wa.heap.size := Nat.le_refl _
         have hlow5 : ∀ k, (Value.slice A5 L.length c5).ownBlock = some k → wa.heap.size ≤ k := fun k hk => by have h := ho5 k hk; first | exact h | (simp at h; omega)
         clear e1 e2 hfr u5 ho5 f5 S5 z0 z1 z2 y0 y1 y2 z
         change Exit.then _ _ Exit.normal _ (((w5.setCell ⟨wa.heap.size, 0, none⟩ (.slice none 0 0)).setCell ⟨wa.heap.size, 1, none⟩ (.slice A5 L.length c5)).setCell ⟨wa.heap.size, 2, none⟩ (.int .i64 (q.gv + 1)))
         generalize (((w5.setCell ⟨wa.heap.size, 0, none⟩ (.slice none 0 0)).setCell ⟨wa.heap.size, 1, none⟩ (.slice A5 L.length c5)).setCell ⟨wa.heap.size, 2, none⟩ (.int .i64 (q.gv + 1))) = wz at *
         obtain ⟨bx, hbe⟩ : ∃ bx, bx = wa.heap.size := ⟨_, rfl⟩
         rw [← hbe] at hblk ⊢
         have hbx : wa.heap.size ≤ bx := Nat.le_of_eq hbe.symm
         clear hbe)
    have hbxn : w.heap.size ≠ bx := by have := HBXL.out; omega
    have hres : wz.heap[w.heap.size]? = some (.cells #[.slice none 0 0, .slice none 0 0, .int .i64 0] 58 (0, 0)) := (hS5.2.block _ HBXL.out).trans HBX.out
    have HBN := hid hbxn
    have HBXW := hid hbx
    have HLOW := hid hlow5
    have HBK := hid hblk
    have HU := hid hu5
    have HS := hid hS5
    clear hbxn hres hblk hu5 hS5 hbx hlow5
    go_wp2_with fail
    go_loopg [19] 17 (fun m v wr => ∃ (i : Nat) (v1 : Value), v = .int .i64 i ∧ i ≤ 16 ∧ m = 17 - i ∧ wr.heap[bx]? = some (.cells #[v1, .slice A5 L.length c5, .int .i64 (q.gv + 1)] 58 (0, 0)) ∧ eP.kd.R 107 wr wa.heap.size (fun _ => True) v1 (pairsK k i) ∧ Q.FR Q.eU 39 wr (.slice A5 L.length c5) L ∧ ImS wa wr F b k q f0 f1)
    case atStart => exact ⟨0, _, rfl, Nat.zero_le _, rfl, HBK.out, Kd.R_nil _ _ _ _ _, HU.out, HS.out⟩
    case round =>
      obtain ⟨i, v1, rfl, hi, hm, hblk, hrow, hu, hS⟩ := hrel
      have HM := hid hm
      clear hm HBK HU HS
      by_cases h1 : i < 16
      · have h1' : (i : Int) < 16 := by omega
        obtain ⟨FK, Pz, hsub, hk, hst⟩ := hS.1.kv
        have hval : k.value (i : Int) = (k.vs.getD i 0, k.th.getD i false) := by unfold KS.value; rw [if_neg (by omega)]; simp
        have HV := hid (K.value_any hk (i : Int))
        rw [hval] at HV
        have HBK := hid hblk
        have HROW := hid hrow
        have HU := hid hu
        have HS := hid hS
        clear hsub hk hst hval hblk hrow hu hS
        cases ht : k.th.getD i false
        · rw [ht] at HV
          have HT := hid (pairsK_false ht)
          clear ht
          go_wp2_with fail
          refine HV.out.mono ?_
          rintro e w6 ⟨rfl, mq, rfl⟩
          go_wp2_with fail
          go_roundg (17 - (i + 1))
          case measure => rw [HM.out]; omega
          case rel => exact ⟨i + 1, v1, by go_num, by omega, rfl, HBK.out, by rw [HT.out]; exact Kd.R_below HROW.out (Q.bdN _ _), HU.out.move (fun k hk => rfl), HS.out.step (Q.bdN _ _)⟩
        · rw [ht] at HV
          have HT := hid (pairsK_true ht)
          generalize k.vs.getD i 0 = vv at *
          have hlen := pairsK_len k i
          clear ht
          go_wp2_with fail
          refine HV.out.mono ?_
          rintro e w6 ⟨rfl, mq, hw6⟩
          have hblk6 : w6.heap[bx]? = some (.cells #[v1, .slice A5 L.length c5, .int .i64 (q.gv + 1)] 58 (0, 0)) := by rw [hw6]; exact HBK.out
          have hrow6 : eP.kd.R 107 w6 wa.heap.size (fun _ => True) v1 (pairsK k i) := by rw [hw6]; exact Kd.R_below HROW.out (Q.bdN _ _)
          have hu6 : Q.FR Q.eU 39 w6 (.slice A5 L.length c5) L := by rw [hw6]; exact HU.out.move (fun k hk => rfl)
          have hS6 : ImS wa w6 F b k q f0 f1 := by rw [hw6]; exact HS.out.step (Q.bdN _ _)
          obtain ⟨A1, c1, hv1⟩ := Kd.R_slice hrow6
          subst hv1
          have cc0 : w6.cell? ⟨bx, 0, none⟩ = some (.slice A1 (pairsK k i).length c1) := by rw [cell_of_row w6 bx 0 _ _ _ hblk6]; rfl
          have HBK6 := hid hblk6
          have HROW6 := hid hrow6
          have HU6 := hid hu6
          have HS6 := hid hS6
          have hsz6 := hS6.2.size
          have HBW6 := hid hS6.2
          have HFR6 : Hid (Q.FR eP 107 w6 (.slice A1 (pairsK k i).length c1) (pairsK k i)) := hid (Kd.R_lower hrow6 (Nat.zero_le _))
          generalize pairsK k i = xs at *
          clear hw6 hblk6 hrow6 hu6 hS6 HBK HROW HU HS HV
          go_wp2_with (at_builtin; go_loud (refine Kd.R_append eP.kd (w0 := wa) wa.heap.size rfl (.tmp 32) (.tmp 36) 56 107 _ 16 rfl Tryz.underlying56 info107 (by rfl) (by decide) (by decide) (.slice A1 xs.length c1) xs ((i : Int), vv) [.int .i64 i, .int .u64 vv] (fun _ => True) (fun _ => False) rfl (by first | rfl | (simp; rfl)) rfl (fun _ q => q.elim) (fun _ _ => trivial) HROW6.out (HBW6.out) hsz6 (by omega) ?_); intro v8 w8 ho8 hb8 hg8 hat8; have hx8 : w8.heap[bx]? = some (.cells #[.slice A1 xs.length c1, .slice A5 L.length c5, .int .i64 (q.gv + 1)] 58 (0, 0)) := (hg8.block _ (Q.blk_lt HBK6.out) (fun q => Q.types_ne (Q.FR.typed HFR6.out q.symm) ⟨_, HBK6.out⟩ (by decide))).trans HBK6.out; have hz8 : w8.frozen? ⟨bx, 0, none⟩ = false := (by simp [World.frozen?, hx8]); have hc8 : w8.cell? ⟨bx, 0, none⟩ = some (.slice A1 xs.length c1) := (by rw [cell_of_row w8 _ 0 _ _ _ hx8]; rfl); have HO8 := hid ho8; have HB8 := hid hb8; have HG8 := hid hg8; have HX8 := hid hx8; obtain ⟨A8, c8, hv8⟩ := Kd.R_slice HO8.out; rw [List.length_append, List.length_singleton] at hv8; subst hv8; clear ho8 hb8 hg8 hat8 hx8)
          go_roundg (17 - (i + 1))
          case measure => rw [HM.out]; omega
          case rel =>
            have hfs : Fr (fun i => i = bx) w8 (w8.setCell ⟨bx, 0, none⟩ (.slice A8 (xs.length + 1) c8)) := Fr.setCell (S := fun i => i = bx) (p := ⟨bx, 0, none⟩) (Fr.refl _ w8) (.inl rfl) _
            have hf8 : Fr (fun k => (Value.slice A1 xs.length c1).ownBlock = some k) w6 w8 := Fr.of_grown HG8.out
            have hrow8 : eP.kd.R 107 w8 wa.heap.size (fun _ => True) (.slice A8 (xs.length + 1) c8) (xs ++ [((i : Int), vv)]) := HO8.out
            have hFR8 : Q.FR eP 107 w8 (.slice A8 (xs.length + 1) c8) (xs ++ [((i : Int), vv)]) := Kd.R_lower hrow8 (Nat.zero_le _)
            have hne8 : ∀ k, (Value.slice A8 (xs.length + 1) c8).ownBlock = some k → k ≠ bx := fun k hk e => Q.types_ne (Q.FR.typed hFR8 hk) ⟨_, e ▸ HX8.out⟩ (by decide)
            have hu8 : Q.FR Q.eU 39 w8 (.slice A5 L.length c5) L := HU6.out.move (fun k hk => hf8.block k (HU6.out.lt hk) (fun q => Q.types_ne (Q.FR.typed HU6.out hk) (Q.FR.typed HFR6.out q) (by decide)))
            have hS8 : ImS wa w8 F b k q f0 f1 := ⟨HS6.out.1.fr hf8 (fun i hi q => by have := Kd.R_base HROW6.out i q; have := HFW.out i hi; omega), HB8.out⟩
            refine ⟨i + 1, _, by go_num, by omega, rfl, K.setCell_heap (off := 0) HX8.out _, by rw [HT.out]; exact row_keep hrow8 (fun k hk => hfs.block k (hFR8.lt hk) (hne8 k hk)), hu8.move (fun k hk => hfs.block k (hu8.lt hk) (fun e => Q.types_ne (Q.FR.typed hu8 hk) ⟨_, e ▸ HX8.out⟩ (by decide))), ImS.setc HBXW.out HFW.out hS8⟩
      · have h1' : ¬ (i : Int) < 16 := by omega
        have hi16 : i = 16 := by omega
        subst hi16
        have hres : wr.heap[w.heap.size]? = some (.cells #[.slice none 0 0, .slice none 0 0, .int .i64 0] 58 (0, 0)) := (hS.2.block _ HBXL.out).trans HBX.out
        obtain ⟨A1, c1, hv1⟩ := Kd.R_slice hrow
        subst hv1
        have q0 := cell_of_row wr bx 0 _ _ _ hblk
        have q1 := cell_of_row wr bx 1 _ _ _ hblk
        have q2 := cell_of_row wr bx 2 _ _ _ hblk
        have g0 := cell_of_row wr w.heap.size 0 _ _ _ hres
        have g1 := cell_of_row wr w.heap.size 1 _ _ _ hres
        have g2 := cell_of_row wr w.heap.size 2 _ _ _ hres
        have y0 : wr.frozen? ⟨w.heap.size, 0, none⟩ = false := by simp [World.frozen?, hres]
        have y1 : wr.frozen? ⟨w.heap.size, 1, none⟩ = false := by simp [World.frozen?, hres]
        have y2 : wr.frozen? ⟨w.heap.size, 2, none⟩ = false := by simp [World.frozen?, hres]
        have HRES := hid hres
        have HROW := hid hrow
        have HU := hid hu
        have HS := hid hS
        clear hres hrow hu hS hblk
        go_wp2_with fail
        have e1 := K.setCell_heap (off := 0) HRES.out (.slice A1 (pairsK k 16).length c1)
        have e2 := K.setCell_heap (off := 1) e1 (.slice A5 L.length c5)
        have e3 : (((wr.setCell ⟨w.heap.size, 0, none⟩ (.slice A1 (pairsK k 16).length c1)).setCell ⟨w.heap.size, 1, none⟩ (.slice A5 L.length c5)).setCell ⟨w.heap.size, 2, none⟩ (.int .i64 (q.gv + 1))).heap[w.heap.size]? = some (.cells #[.slice A1 (pairsK k 16).length c1, .slice A5 L.length c5, .int .i64 (q.gv + 1)] 58 (0, 0)) := K.setCell_heap (off := 2) e2 (.int .i64 (q.gv + 1))
        have hfr : Fr (fun i => i = w.heap.size) wr (((wr.setCell ⟨w.heap.size, 0, none⟩ (.slice A1 (pairsK k 16).length c1)).setCell ⟨w.heap.size, 1, none⟩ (.slice A5 L.length c5)).setCell ⟨w.heap.size, 2, none⟩ (.int .i64 (q.gv + 1))) := Fr.setCell (S := fun i => i = w.heap.size) (p := ⟨w.heap.size, 2, none⟩) (Fr.setCell (S := fun i => i = w.heap.size) (p := ⟨w.heap.size, 1, none⟩) (Fr.setCell (S := fun i => i = w.heap.size) (p := ⟨w.heap.size, 0, none⟩) (Fr.refl _ wr) (.inl rfl) _) (.inl rfl) _) (.inl rfl) _
        refine bodyPost_ret (results_cell_row rfl _ _ w.heap.size 58 _ (0, 0) _ rfl e3 Tryz.underlying58 rfl (by kernel_rfl)) rfl ?_
        have hFR : Q.FR eP 107 wr (.slice A1 (pairsK k 16).length c1) (pairsK k 16) := Kd.R_lower HROW.out (Nat.zero_le _)
        have hFR2 := hFR.move (fun k hk => hfr.block k (hFR.lt hk) (fun e => Q.types_ne (Q.FR.typed hFR hk) ⟨_, e ▸ HRES.out⟩ (by decide)))
        have hU2 := HU.out.move (fun k hk => hfr.block k (HU.out.lt hk) (fun e => Q.types_ne (Q.FR.typed HU.out hk) ⟨_, e ▸ HRES.out⟩ (by decide)))
        obtain ⟨A1', c1', ev, hc1, hat1⟩ := hFR2.at_
        cases ev
        obtain ⟨A5', c5', ev, hc5, hat5⟩ := hU2.at_
        cases ev
        refine ⟨_, rfl, ⟨A1, c1, A5, c5, ?_, hat1, ?_, hc1, ?_, fun k off e => Nat.le_trans (Nat.le_of_lt HBXL.out) (Kd.R_base HROW.out k (own_addr e)), fun k off e => Nat.le_trans (Nat.le_of_lt HBXL.out) (HLOW.out k (own_addr e))⟩, ?_⟩
        · show _ = Value.agg #[_, .slice A5 (q.its.map (·.val)).length c5, _]
          rw [HL.out]; rfl
        · show Q.RowAt _ 1 _ _ A5 (q.its.map (·.val))
          rw [HL.out]; exact hat5
        · show (q.its.map (·.val)).length ≤ c5
          rw [HL.out]; exact hc5
        · have hb1 := HBA.out.trans (HS.out.2.mono HBA.out.size)
          exact hb1.trans (hfr.below hb1.size (fun k hk q => by omega))
end Go.Proofs.YtdejbinmnoabeaaGreat
