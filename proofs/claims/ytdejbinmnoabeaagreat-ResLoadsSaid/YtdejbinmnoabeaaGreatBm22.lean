/- Texts of this seat, put together: RzJ. -/
import Derived.Test.YtdejbinmnoabeaaGreatBm21
import Derived.Laws.Rows
import Derived.Deep.DeepCutAuto
import Derived.Deep.CutBlock
namespace Go.Mine
structure ROp where
  kind : Int
  work : Int
  key : Int
  val : Int
  la : Option Addr
  l : List Ch
  lc : Nat
structure RTold where
  v : Int
  t : Bool
  l : List Ch
  e : Int
def callR (s : RM) (o : ROp) : RTold × RM :=
  if o.kind = 0 then (⟨(s.get o.work o.key).1.1, (s.get o.work o.key).1.2.1, [], (s.get o.work o.key).1.2.2⟩, (s.get o.work o.key).2)
  else if o.kind = 1 then (⟨0, false, [], (s.change o.work ⟨1, o.key, o.val⟩).1⟩, (s.change o.work ⟨1, o.key, o.val⟩).2)
  else if o.kind = 2 then (⟨0, false, [], (s.change o.work ⟨2, o.key, 0⟩).1⟩, (s.change o.work ⟨2, o.key, 0⟩).2)
  else if o.kind = 3 then (⟨0, false, [], (s.push o.work o.val).1⟩, (s.push o.work o.val).2)
  else if o.kind = 4 then (⟨(s.pop o.work).1.1, false, [], (s.pop o.work).1.2⟩, (s.pop o.work).2)
  else if o.kind = 5 then (⟨0, false, (s.prepare o.work).1.1, (s.prepare o.work).1.2⟩, (s.prepare o.work).2)
  else if o.kind = 6 then (⟨0, false, [], (s.commit o.work).1⟩, (s.commit o.work).2)
  else if o.kind = 7 then (⟨0, false, [], (s.backout o.work).1⟩, (s.backout o.work).2)
  else if o.kind = 8 then (⟨0, false, [], (s.restore o.work o.l).1⟩, (s.restore o.work o.l).2)
  else (⟨0, false, [], 0⟩, s)
theorem RM.Ok.call {s : RM} (h : s.Ok) (o : ROp) : (callR s o).2.Ok := by
  unfold callR
  split
  · exact h.get _ _
  · split
    · exact h.change _ _ (.inl rfl)
    · split
      · exact h.change _ _ (.inr ⟨rfl, rfl⟩)
      · split
        · exact h.push _ _
        · split
          · exact h.pop _
          · split
            · exact h.prepare _
            · split
              · exact h.commit _
              · split
                · exact h.backout _
                · split
                  · exact h.restore _ _
                  · exact h
end Go.Mine
namespace Go.Proofs.YtdejbinmnoabeaaGreat
open Go.RowKit Go.Mine Go.Proofs.YtdejbinmnoabeaaGreatW.PrintWords
set_option linter.unusedVariables false
set_option linter.unusedSimpArgs false
def RCall (F : Nat → Prop) (w : World) (b : Nat) (R : RTold × RM) (e : Ending) (w' : World) : Prop :=
  ∃ A c, e = .returned (.agg #[.int .u64 R.1.v, .bool R.1.t, .slice A R.1.l.length c, .int .i64 R.1.e]) ∧ (∃ F', RAt F' w' b R.2 ∧ K.Grew F F' w ∧ ∀ k off, A = some ⟨k, off, none⟩ → w.heap.size ≤ k ∧ ¬ F' k) ∧ ChAt w' w'.heap.size A R.1.l ∧ Fr F w w'
set_option maxRecDepth 100000 in
set_option maxHeartbeats 8000000 in
theorem call_any {F : Nat → Prop} {w : World} {b : Nat} {s : RM} (h : RAt F w b s) (o : ROp) (hl : o.kind = 8 → ChAt w w.heap.size o.la o.l ∧ (o.l ≠ [] → Q.Beside F o.la) ∧ o.l.length ≤ 900 ∧ o.l.length ≤ o.lc) :
    Calls Tryz.prog 8 #[.pointer (some ⟨b, 0, none⟩), .agg #[.int .i64 o.kind, .int .i64 o.work, .int .i64 o.key, .int .u64 o.val, .slice o.la o.l.length o.lc]] w (RCall F w b (callR s o)) := by
  obtain ⟨wi, hwi⟩ : ∃ wi, wi = (((w.alloc (.cells #[.int .i64 o.kind, .int .i64 o.work, .int .i64 o.key, .int .u64 o.val, .slice o.la o.l.length o.lc] 42)).alloc (.cells #[.int .u64 0, .bool false, .slice none 0 0, .int .i64 0] 47)).alloc (.cells #[.int .u64 0, .bool false, .slice none 0 0, .int .i64 0] 47)) := ⟨_, rfl⟩
  have hba : Below w.heap.size w (w.alloc (.cells #[.int .i64 o.kind, .int .i64 o.work, .int .i64 o.key, .int .u64 o.val, .slice o.la o.l.length o.lc] 42)) := (Below.refl _ _).alloc (Nat.le_refl _) _
  have hbb : Below w.heap.size w ((w.alloc (.cells #[.int .i64 o.kind, .int .i64 o.work, .int .i64 o.key, .int .u64 o.val, .slice o.la o.l.length o.lc] 42)).alloc (.cells #[.int .u64 0, .bool false, .slice none 0 0, .int .i64 0] 47)) := hba.alloc hba.size _
  have hbi : Below w.heap.size w wi := by rw [hwi]; exact hbb.alloc hbb.size _
  have sa : (w.alloc (.cells #[.int .i64 o.kind, .int .i64 o.work, .int .i64 o.key, .int .u64 o.val, .slice o.la o.l.length o.lc] 42)).heap.size = w.heap.size + 1 := by simp
  have sb : ((w.alloc (.cells #[.int .i64 o.kind, .int .i64 o.work, .int .i64 o.key, .int .u64 o.val, .slice o.la o.l.length o.lc] 42)).alloc (.cells #[.int .u64 0, .bool false, .slice none 0 0, .int .i64 0] 47)).heap.size = w.heap.size + 1 + 1 := by simp
  have hx0 : wi.heap[w.heap.size]? = some (.cells #[.int .i64 o.kind, .int .i64 o.work, .int .i64 o.key, .int .u64 o.val, .slice o.la o.l.length o.lc] 42 (0, 0)) := by
    rw [hwi]
    exact ((((Below.refl _ _).alloc (Nat.le_refl _) _ : Below (w.alloc (.cells #[.int .i64 o.kind, .int .i64 o.work, .int .i64 o.key, .int .u64 o.val, .slice o.la o.l.length o.lc] 42)).heap.size (w.alloc (.cells #[.int .i64 o.kind, .int .i64 o.work, .int .i64 o.key, .int .u64 o.val, .slice o.la o.l.length o.lc] 42)) _).alloc (by simp) _).block _ (by simp)).trans (MapKept.heap_alloc w _).1
  have hx1 : wi.heap[w.heap.size + 1]? = some (.cells #[.int .u64 0, .bool false, .slice none 0 0, .int .i64 0] 47 (0, 0)) := by
    rw [hwi, ← sa]
    exact (((Below.refl _ _).alloc (Nat.le_refl _) _ : Below ((w.alloc (.cells #[.int .i64 o.kind, .int .i64 o.work, .int .i64 o.key, .int .u64 o.val, .slice o.la o.l.length o.lc] 42)).alloc (.cells #[.int .u64 0, .bool false, .slice none 0 0, .int .i64 0] 47)).heap.size ((w.alloc (.cells #[.int .i64 o.kind, .int .i64 o.work, .int .i64 o.key, .int .u64 o.val, .slice o.la o.l.length o.lc] 42)).alloc (.cells #[.int .u64 0, .bool false, .slice none 0 0, .int .i64 0] 47)) _).block _ (by simp)).trans (MapKept.heap_alloc _ _).1
  have hx2 : wi.heap[w.heap.size + 1 + 1]? = some (.cells #[.int .u64 0, .bool false, .slice none 0 0, .int .i64 0] 47 (0, 0)) := by
    rw [hwi, ← sb]
    exact (MapKept.heap_alloc _ _).1
  have hsi : wi.heap.size = w.heap.size + 1 + 1 + 1 := by rw [hwi]; simp
  have hlo : ∀ i, F i → i < w.heap.size := h.fb
  have hai : RAt F wi b s := h.below (hbi.mono (Nat.le_refl _))
  have HAI := hid hai
  have HLO := hid hlo
  have HL := hid hl
  clear h hai hlo hl
  have HWI := hid hwi
  have HBI := hid hbi
  have HS := hid hsi
  clear hwi hbi hba hbb sa sb hsi
  go_enter Tryz.func8, Tryz.ntmps8
  go_upto_block 0 with (fail)
  rw [← HWI.out]
  have hge1 : Hid (w.heap.size ≤ w.heap.size + 1) := hid (by omega)
  have hge2 : Hid (w.heap.size ≤ w.heap.size + 1 + 1) := hid (by omega)
  have hne : Hid (w.heap.size + 1 ≠ w.heap.size + 1 + 1) := hid (by omega)
  have hlt1 : Hid (w.heap.size + 1 < wi.heap.size) := hid (by rw [HS.out]; omega)
  have hlt2 : Hid (w.heap.size + 1 + 1 < wi.heap.size) := hid (by rw [HS.out]; omega)
  clear HWI HS
  obtain ⟨b0, hb0⟩ : ∃ b0, b0 = w.heap.size := ⟨_, rfl⟩
  generalize w.heap.size + 1 + 1 = b2 at *
  generalize w.heap.size + 1 = b1 at *
  rw [← hb0] at hx0 ⊢
  clear hb0
  have k0 := cell_of_row wi b0 0 _ _ _ hx0
  have k1 := cell_of_row wi b0 1 _ _ _ hx0
  have k2 := cell_of_row wi b0 2 _ _ _ hx0
  have k3 := cell_of_row wi b0 3 _ _ _ hx0
  have k4 := cell_of_row wi b0 4 _ _ _ hx0
  have HX1 := hid hx1
  have HX2 := hid hx2
  clear hx0 hx1 hx2
  go_cut [] (fun wc => ∃ A c, wc.heap[b2]? = some (.cells #[.int .u64 (callR s o).1.v, .bool (callR s o).1.t, .slice A (callR s o).1.l.length c, .int .i64 (callR s o).1.e] 47 (0, 0)) ∧ wc.heap[b1]? = some (.cells #[.int .u64 0, .bool false, .slice none 0 0, .int .i64 0] 47 (0, 0)) ∧ (∃ F1, RAt F1 wc b (callR s o).2 ∧ K.Grew F F1 w ∧ ¬ F1 b1 ∧ ∀ k off, A = some ⟨k, off, none⟩ → w.heap.size ≤ k ∧ ¬ F1 k ∧ k ≠ b1) ∧ ChAt wc wc.heap.size A (callR s o).1.l ∧ Fr F w wc)
  case first =>
    cases q0 : (o.kind == 0)
    · cases q1 : (o.kind == 1)
      · cases q2 : (o.kind == 2)
        · cases q3 : (o.kind == 3)
          · cases q4 : (o.kind == 4)
            · cases q5 : (o.kind == 5)
              · cases q6 : (o.kind == 6)
                · cases q7 : (o.kind == 7)
                  · cases q8 : (o.kind == 8)
                    · have n0 : ¬ o.kind = 0 := by simpa using q0
                      have n1 : ¬ o.kind = 1 := by simpa using q1
                      have n2 : ¬ o.kind = 2 := by simpa using q2
                      have n3 : ¬ o.kind = 3 := by simpa using q3
                      have n4 : ¬ o.kind = 4 := by simpa using q4
                      have n5 : ¬ o.kind = 5 := by simpa using q5
                      have n6 : ¬ o.kind = 6 := by simpa using q6
                      have n7 : ¬ o.kind = 7 := by simpa using q7
                      have n8 : ¬ o.kind = 8 := by simpa using q8
                      have HR := hid (show callR s o = _ from by unfold callR; rw [if_neg n0, if_neg n1, if_neg n2, if_neg n3, if_neg n4, if_neg n5, if_neg n6, if_neg n7, if_neg n8])
                      clear n0 n1 n2 n3 n4 n5 n6 n7 n8
                      go_wp2_with fail
                      go_meet
                      case rel =>
                        rw [HR.out]
                        exact ⟨none, 0, HX2.out, HX1.out, ⟨F, HAI.out, K.Grew.refl _ _, (fun q => by have := HLO.out _ q; have := hge1.out; omega), fun k off e => by cases e⟩, fun i x hx => by simp at hx, (Fr.of_below HBI.out (Nat.le_refl _)).mono (fun _ q => q.elim)⟩
                    · have n0 : ¬ o.kind = 0 := by simpa using q0
                      have n1 : ¬ o.kind = 1 := by simpa using q1
                      have n2 : ¬ o.kind = 2 := by simpa using q2
                      have n3 : ¬ o.kind = 3 := by simpa using q3
                      have n4 : ¬ o.kind = 4 := by simpa using q4
                      have n5 : ¬ o.kind = 5 := by simpa using q5
                      have n6 : ¬ o.kind = 6 := by simpa using q6
                      have n7 : ¬ o.kind = 7 := by simpa using q7
                      have p8 : o.kind = 8 := by simpa using q8
                      have HR := hid (show callR s o = _ from by unfold callR; rw [if_neg n0, if_neg n1, if_neg n2, if_neg n3, if_neg n4, if_neg n5, if_neg n6, if_neg n7, if_pos p8])
                      have HC := hid (restore_any HAI.out o.work o.la o.l o.lc (((HL.out p8).1.below HBI.out).up HBI.out.size) (HL.out p8).2.1 (HL.out p8).2.2.1 (HL.out p8).2.2.2)
                      clear n0 n1 n2 n3 n4 n5 n6 n7 p8
                      go_wp2_with fail
                      refine HC.out.mono ?_
                      rintro e w1 ⟨rfl, ⟨F1, hx1, hg1⟩, hf1⟩
                      have y2 := hf1.at_ HX2.out (fun q => by have := HLO.out _ q; have := hge2.out; omega)
                      have y1 := hf1.at_ HX1.out (fun q => by have := HLO.out _ q; have := hge1.out; omega)
                      have g3 := cell_of_row w1 b2 3 _ _ _ y2
                      have z3 : w1.frozen? ⟨b2, 3, none⟩ = false := by simp [World.frozen?, y2]
                      have Y2 := hid y2
                      have Y1 := hid y1
                      have HX := hid hx1
                      have HG := hid hg1
                      have HF := hid hf1
                      clear y2 y1 hx1 hg1 hf1 HC
                      go_wp2_with fail
                      have e3 := K.setCell_heap (off := 3) (Y2.out) (.int .i64 (s.restore o.work o.l).1)
                      have hfs : Fr (fun i => i = b2) w1 (w1.setCell ⟨b2, 3, none⟩ (.int .i64 (s.restore o.work o.l).1)) := Fr.setCell (S := fun i => i = b2) (p := ⟨b2, 3, none⟩) (Fr.refl _ w1) (.inl rfl) (.int .i64 (s.restore o.work o.l).1)
                      go_meet
                      case rel =>
                        have hF1 : ∀ i, F1 i → i ≠ b2 := fun i hi q => by
                          rcases HG.out i hi with r | r
                          · have := HLO.out i r; have := hge2.out; omega
                          · have := hlt2.out; omega
                        have hfw : Fr F w w1 := ((Fr.of_below HBI.out (Nat.le_refl _)).mono (fun _ q => q.elim)).trans HF.out (fun i hi => .inl hi)
                        have hnb1 : ¬ F1 b1 := fun hi => by
                          rcases HG.out b1 hi with r | r
                          · have := HLO.out b1 r; have := hge1.out; omega
                          · have := hlt1.out; omega
                        rw [HR.out]
                        exact ⟨none, 0, e3, hfs.at_ Y1.out hne.out, ⟨F1, HX.out.fr hfs (fun i hi q => hF1 i hi q), fun i hi => (HG.out i hi).imp id (fun q => Nat.le_trans HBI.out.size q), hnb1, (fun k off e => by cases e)⟩, (fun i x hx => by simp at hx), hfw.trans hfs (fun i hi => .inr (by rw [hi]; exact hge2.out))⟩
                  · have n0 : ¬ o.kind = 0 := by simpa using q0
                    have n1 : ¬ o.kind = 1 := by simpa using q1
                    have n2 : ¬ o.kind = 2 := by simpa using q2
                    have n3 : ¬ o.kind = 3 := by simpa using q3
                    have n4 : ¬ o.kind = 4 := by simpa using q4
                    have n5 : ¬ o.kind = 5 := by simpa using q5
                    have n6 : ¬ o.kind = 6 := by simpa using q6
                    have p7 : o.kind = 7 := by simpa using q7
                    have HR := hid (show callR s o = _ from by unfold callR; rw [if_neg n0, if_neg n1, if_neg n2, if_neg n3, if_neg n4, if_neg n5, if_neg n6, if_pos p7])
                    have HC := hid (backout_any HAI.out o.work)
                    clear n0 n1 n2 n3 n4 n5 n6 p7
                    go_wp2_with fail
                    refine HC.out.mono ?_
                    rintro e w1 ⟨rfl, ⟨F1, hx1, hg1⟩, hf1⟩
                    have y2 := hf1.at_ HX2.out (fun q => by have := HLO.out _ q; have := hge2.out; omega)
                    have y1 := hf1.at_ HX1.out (fun q => by have := HLO.out _ q; have := hge1.out; omega)
                    have g3 := cell_of_row w1 b2 3 _ _ _ y2
                    have z3 : w1.frozen? ⟨b2, 3, none⟩ = false := by simp [World.frozen?, y2]
                    have Y2 := hid y2
                    have Y1 := hid y1
                    have HX := hid hx1
                    have HG := hid hg1
                    have HF := hid hf1
                    clear y2 y1 hx1 hg1 hf1 HC
                    go_wp2_with fail
                    have e3 := K.setCell_heap (off := 3) (Y2.out) (.int .i64 (s.backout o.work).1)
                    have hfs : Fr (fun i => i = b2) w1 (w1.setCell ⟨b2, 3, none⟩ (.int .i64 (s.backout o.work).1)) := Fr.setCell (S := fun i => i = b2) (p := ⟨b2, 3, none⟩) (Fr.refl _ w1) (.inl rfl) (.int .i64 (s.backout o.work).1)
                    go_meet
                    case rel =>
                      have hF1 : ∀ i, F1 i → i ≠ b2 := fun i hi q => by
                        rcases HG.out i hi with r | r
                        · have := HLO.out i r; have := hge2.out; omega
                        · have := hlt2.out; omega
                      have hfw : Fr F w w1 := ((Fr.of_below HBI.out (Nat.le_refl _)).mono (fun _ q => q.elim)).trans HF.out (fun i hi => .inl hi)
                      have hnb1 : ¬ F1 b1 := fun hi => by
                        rcases HG.out b1 hi with r | r
                        · have := HLO.out b1 r; have := hge1.out; omega
                        · have := hlt1.out; omega
                      rw [HR.out]
                      exact ⟨none, 0, e3, hfs.at_ Y1.out hne.out, ⟨F1, HX.out.fr hfs (fun i hi q => hF1 i hi q), fun i hi => (HG.out i hi).imp id (fun q => Nat.le_trans HBI.out.size q), hnb1, (fun k off e => by cases e)⟩, (fun i x hx => by simp at hx), hfw.trans hfs (fun i hi => .inr (by rw [hi]; exact hge2.out))⟩
                · have n0 : ¬ o.kind = 0 := by simpa using q0
                  have n1 : ¬ o.kind = 1 := by simpa using q1
                  have n2 : ¬ o.kind = 2 := by simpa using q2
                  have n3 : ¬ o.kind = 3 := by simpa using q3
                  have n4 : ¬ o.kind = 4 := by simpa using q4
                  have n5 : ¬ o.kind = 5 := by simpa using q5
                  have p6 : o.kind = 6 := by simpa using q6
                  have HR := hid (show callR s o = _ from by unfold callR; rw [if_neg n0, if_neg n1, if_neg n2, if_neg n3, if_neg n4, if_neg n5, if_pos p6])
                  have HC := hid (commit_any HAI.out o.work)
                  clear n0 n1 n2 n3 n4 n5 p6
                  go_wp2_with fail
                  refine HC.out.mono ?_
                  rintro e w1 ⟨rfl, ⟨F1, hx1, hg1⟩, hf1⟩
                  have y2 := hf1.at_ HX2.out (fun q => by have := HLO.out _ q; have := hge2.out; omega)
                  have y1 := hf1.at_ HX1.out (fun q => by have := HLO.out _ q; have := hge1.out; omega)
                  have g3 := cell_of_row w1 b2 3 _ _ _ y2
                  have z3 : w1.frozen? ⟨b2, 3, none⟩ = false := by simp [World.frozen?, y2]
                  have Y2 := hid y2
                  have Y1 := hid y1
                  have HX := hid hx1
                  have HG := hid hg1
                  have HF := hid hf1
                  clear y2 y1 hx1 hg1 hf1 HC
                  go_wp2_with fail
                  have e3 := K.setCell_heap (off := 3) (Y2.out) (.int .i64 (s.commit o.work).1)
                  have hfs : Fr (fun i => i = b2) w1 (w1.setCell ⟨b2, 3, none⟩ (.int .i64 (s.commit o.work).1)) := Fr.setCell (S := fun i => i = b2) (p := ⟨b2, 3, none⟩) (Fr.refl _ w1) (.inl rfl) (.int .i64 (s.commit o.work).1)
                  go_meet
                  case rel =>
                    have hF1 : ∀ i, F1 i → i ≠ b2 := fun i hi q => by
                      rcases HG.out i hi with r | r
                      · have := HLO.out i r; have := hge2.out; omega
                      · have := hlt2.out; omega
                    have hfw : Fr F w w1 := ((Fr.of_below HBI.out (Nat.le_refl _)).mono (fun _ q => q.elim)).trans HF.out (fun i hi => .inl hi)
                    have hnb1 : ¬ F1 b1 := fun hi => by
                      rcases HG.out b1 hi with r | r
                      · have := HLO.out b1 r; have := hge1.out; omega
                      · have := hlt1.out; omega
                    rw [HR.out]
                    exact ⟨none, 0, e3, hfs.at_ Y1.out hne.out, ⟨F1, HX.out.fr hfs (fun i hi q => hF1 i hi q), fun i hi => (HG.out i hi).imp id (fun q => Nat.le_trans HBI.out.size q), hnb1, (fun k off e => by cases e)⟩, (fun i x hx => by simp at hx), hfw.trans hfs (fun i hi => .inr (by rw [hi]; exact hge2.out))⟩
              · have n0 : ¬ o.kind = 0 := by simpa using q0
                have n1 : ¬ o.kind = 1 := by simpa using q1
                have n2 : ¬ o.kind = 2 := by simpa using q2
                have n3 : ¬ o.kind = 3 := by simpa using q3
                have n4 : ¬ o.kind = 4 := by simpa using q4
                have p5 : o.kind = 5 := by simpa using q5
                have HR := hid (show callR s o = _ from by unfold callR; rw [if_neg n0, if_neg n1, if_neg n2, if_neg n3, if_neg n4, if_pos p5])
                have HC := hid (prepare_any HAI.out o.work)
                clear n0 n1 n2 n3 n4 p5
                go_wp2_with fail
                refine HC.out.mono ?_
                rintro e w1 ⟨A5, c5, rfl, ⟨F1, hx1, hg1, ho1⟩, hat1, hcap1, hf1⟩
                have y2 := hf1.at_ HX2.out (fun q => by have := HLO.out _ q; have := hge2.out; omega)
                have y1 := hf1.at_ HX1.out (fun q => by have := HLO.out _ q; have := hge1.out; omega)
                have g2 := cell_of_row w1 b2 2 _ _ _ y2
                have z2 : w1.frozen? ⟨b2, 2, none⟩ = false := by simp [World.frozen?, y2]
                have g3 := cell_of_row w1 b2 3 _ _ _ y2
                have z3 : w1.frozen? ⟨b2, 3, none⟩ = false := by simp [World.frozen?, y2]
                have Y2 := hid y2
                have Y1 := hid y1
                have HX := hid hx1
                have HG := hid hg1
                have HF := hid hf1
                have HO := hid ho1
                have HAT := hid hat1
                clear y2 y1 hx1 hg1 hf1 HC ho1 hat1 hcap1
                go_wp2_with fail
                have e2 := K.setCell_heap (off := 2) (Y2.out) (.slice A5 (s.prepare o.work).1.1.length c5)
                have e3 := K.setCell_heap (off := 3) (e2) (.int .i64 (s.prepare o.work).1.2)
                have hfs : Fr (fun i => i = b2) w1 ((w1.setCell ⟨b2, 2, none⟩ (.slice A5 (s.prepare o.work).1.1.length c5)).setCell ⟨b2, 3, none⟩ (.int .i64 (s.prepare o.work).1.2)) := Fr.setCell (S := fun i => i = b2) (p := ⟨b2, 3, none⟩) (Fr.setCell (S := fun i => i = b2) (p := ⟨b2, 2, none⟩) (Fr.refl _ w1) (.inl rfl) (.slice A5 (s.prepare o.work).1.1.length c5)) (.inl rfl) (.int .i64 (s.prepare o.work).1.2)
                go_meet
                case rel =>
                  have hF1 : ∀ i, F1 i → i ≠ b2 := fun i hi q => by
                    rcases HG.out i hi with r | r
                    · have := HLO.out i r; have := hge2.out; omega
                    · have := hlt2.out; omega
                  have hfw : Fr F w w1 := ((Fr.of_below HBI.out (Nat.le_refl _)).mono (fun _ q => q.elim)).trans HF.out (fun i hi => .inl hi)
                  have hnb1 : ¬ F1 b1 := fun hi => by
                    rcases HG.out b1 hi with r | r
                    · have := HLO.out b1 r; have := hge1.out; omega
                    · have := hlt1.out; omega
                  rw [HR.out]
                  exact ⟨A5, c5, e3, hfs.at_ Y1.out hne.out, ⟨F1, HX.out.fr hfs (fun i hi q => hF1 i hi q), fun i hi => (HG.out i hi).imp id (fun q => Nat.le_trans HBI.out.size q), hnb1, (fun k off e => ⟨Nat.le_trans HBI.out.size (HO.out k off e).1, (HO.out k off e).2, by have := (HO.out k off e).1; have := hlt1.out; omega⟩)⟩, (row_fr HAT.out hfs (fun k off e q => by have := (HO.out k off e).1; have := hlt2.out; omega)), hfw.trans hfs (fun i hi => .inr (by rw [hi]; exact hge2.out))⟩
            · have n0 : ¬ o.kind = 0 := by simpa using q0
              have n1 : ¬ o.kind = 1 := by simpa using q1
              have n2 : ¬ o.kind = 2 := by simpa using q2
              have n3 : ¬ o.kind = 3 := by simpa using q3
              have p4 : o.kind = 4 := by simpa using q4
              have HR := hid (show callR s o = _ from by unfold callR; rw [if_neg n0, if_neg n1, if_neg n2, if_neg n3, if_pos p4])
              have HC := hid (pop_any HAI.out o.work)
              clear n0 n1 n2 n3 p4
              go_wp2_with fail
              refine HC.out.mono ?_
              rintro e w1 ⟨rfl, ⟨F1, hx1, hg1⟩, hf1⟩
              have y2 := hf1.at_ HX2.out (fun q => by have := HLO.out _ q; have := hge2.out; omega)
              have y1 := hf1.at_ HX1.out (fun q => by have := HLO.out _ q; have := hge1.out; omega)
              have g0 := cell_of_row w1 b2 0 _ _ _ y2
              have z0 : w1.frozen? ⟨b2, 0, none⟩ = false := by simp [World.frozen?, y2]
              have g3 := cell_of_row w1 b2 3 _ _ _ y2
              have z3 : w1.frozen? ⟨b2, 3, none⟩ = false := by simp [World.frozen?, y2]
              have Y2 := hid y2
              have Y1 := hid y1
              have HX := hid hx1
              have HG := hid hg1
              have HF := hid hf1
              clear y2 y1 hx1 hg1 hf1 HC
              go_wp2_with fail
              have e0 := K.setCell_heap (off := 0) (Y2.out) (.int .u64 (s.pop o.work).1.1)
              have e3 := K.setCell_heap (off := 3) (e0) (.int .i64 (s.pop o.work).1.2)
              have hfs : Fr (fun i => i = b2) w1 ((w1.setCell ⟨b2, 0, none⟩ (.int .u64 (s.pop o.work).1.1)).setCell ⟨b2, 3, none⟩ (.int .i64 (s.pop o.work).1.2)) := Fr.setCell (S := fun i => i = b2) (p := ⟨b2, 3, none⟩) (Fr.setCell (S := fun i => i = b2) (p := ⟨b2, 0, none⟩) (Fr.refl _ w1) (.inl rfl) (.int .u64 (s.pop o.work).1.1)) (.inl rfl) (.int .i64 (s.pop o.work).1.2)
              go_meet
              case rel =>
                have hF1 : ∀ i, F1 i → i ≠ b2 := fun i hi q => by
                  rcases HG.out i hi with r | r
                  · have := HLO.out i r; have := hge2.out; omega
                  · have := hlt2.out; omega
                have hfw : Fr F w w1 := ((Fr.of_below HBI.out (Nat.le_refl _)).mono (fun _ q => q.elim)).trans HF.out (fun i hi => .inl hi)
                have hnb1 : ¬ F1 b1 := fun hi => by
                  rcases HG.out b1 hi with r | r
                  · have := HLO.out b1 r; have := hge1.out; omega
                  · have := hlt1.out; omega
                rw [HR.out]
                exact ⟨none, 0, e3, hfs.at_ Y1.out hne.out, ⟨F1, HX.out.fr hfs (fun i hi q => hF1 i hi q), fun i hi => (HG.out i hi).imp id (fun q => Nat.le_trans HBI.out.size q), hnb1, (fun k off e => by cases e)⟩, (fun i x hx => by simp at hx), hfw.trans hfs (fun i hi => .inr (by rw [hi]; exact hge2.out))⟩
          · have n0 : ¬ o.kind = 0 := by simpa using q0
            have n1 : ¬ o.kind = 1 := by simpa using q1
            have n2 : ¬ o.kind = 2 := by simpa using q2
            have p3 : o.kind = 3 := by simpa using q3
            have HR := hid (show callR s o = _ from by unfold callR; rw [if_neg n0, if_neg n1, if_neg n2, if_pos p3])
            have HC := hid (push_any HAI.out o.work o.val)
            clear n0 n1 n2 p3
            go_wp2_with fail
            refine HC.out.mono ?_
            rintro e w1 ⟨rfl, ⟨F1, hx1, hg1⟩, hf1⟩
            have y2 := hf1.at_ HX2.out (fun q => by have := HLO.out _ q; have := hge2.out; omega)
            have y1 := hf1.at_ HX1.out (fun q => by have := HLO.out _ q; have := hge1.out; omega)
            have g3 := cell_of_row w1 b2 3 _ _ _ y2
            have z3 : w1.frozen? ⟨b2, 3, none⟩ = false := by simp [World.frozen?, y2]
            have Y2 := hid y2
            have Y1 := hid y1
            have HX := hid hx1
            have HG := hid hg1
            have HF := hid hf1
            clear y2 y1 hx1 hg1 hf1 HC
            go_wp2_with fail
            have e3 := K.setCell_heap (off := 3) (Y2.out) (.int .i64 (s.push o.work o.val).1)
            have hfs : Fr (fun i => i = b2) w1 (w1.setCell ⟨b2, 3, none⟩ (.int .i64 (s.push o.work o.val).1)) := Fr.setCell (S := fun i => i = b2) (p := ⟨b2, 3, none⟩) (Fr.refl _ w1) (.inl rfl) (.int .i64 (s.push o.work o.val).1)
            go_meet
            case rel =>
              have hF1 : ∀ i, F1 i → i ≠ b2 := fun i hi q => by
                rcases HG.out i hi with r | r
                · have := HLO.out i r; have := hge2.out; omega
                · have := hlt2.out; omega
              have hfw : Fr F w w1 := ((Fr.of_below HBI.out (Nat.le_refl _)).mono (fun _ q => q.elim)).trans HF.out (fun i hi => .inl hi)
              have hnb1 : ¬ F1 b1 := fun hi => by
                rcases HG.out b1 hi with r | r
                · have := HLO.out b1 r; have := hge1.out; omega
                · have := hlt1.out; omega
              rw [HR.out]
              exact ⟨none, 0, e3, hfs.at_ Y1.out hne.out, ⟨F1, HX.out.fr hfs (fun i hi q => hF1 i hi q), fun i hi => (HG.out i hi).imp id (fun q => Nat.le_trans HBI.out.size q), hnb1, (fun k off e => by cases e)⟩, (fun i x hx => by simp at hx), hfw.trans hfs (fun i hi => .inr (by rw [hi]; exact hge2.out))⟩
        · have n0 : ¬ o.kind = 0 := by simpa using q0
          have n1 : ¬ o.kind = 1 := by simpa using q1
          have p2 : o.kind = 2 := by simpa using q2
          have HR := hid (show callR s o = _ from by unfold callR; rw [if_neg n0, if_neg n1, if_pos p2])
          have HC := hid (del_any HAI.out o.work o.key)
          clear n0 n1 p2
          go_wp2_with fail
          refine HC.out.mono ?_
          rintro e w1 ⟨rfl, ⟨F1, hx1, hg1⟩, hf1⟩
          have y2 := hf1.at_ HX2.out (fun q => by have := HLO.out _ q; have := hge2.out; omega)
          have y1 := hf1.at_ HX1.out (fun q => by have := HLO.out _ q; have := hge1.out; omega)
          have g3 := cell_of_row w1 b2 3 _ _ _ y2
          have z3 : w1.frozen? ⟨b2, 3, none⟩ = false := by simp [World.frozen?, y2]
          have Y2 := hid y2
          have Y1 := hid y1
          have HX := hid hx1
          have HG := hid hg1
          have HF := hid hf1
          clear y2 y1 hx1 hg1 hf1 HC
          go_wp2_with fail
          have e3 := K.setCell_heap (off := 3) (Y2.out) (.int .i64 (s.change o.work ⟨2, o.key, 0⟩).1)
          have hfs : Fr (fun i => i = b2) w1 (w1.setCell ⟨b2, 3, none⟩ (.int .i64 (s.change o.work ⟨2, o.key, 0⟩).1)) := Fr.setCell (S := fun i => i = b2) (p := ⟨b2, 3, none⟩) (Fr.refl _ w1) (.inl rfl) (.int .i64 (s.change o.work ⟨2, o.key, 0⟩).1)
          go_meet
          case rel =>
            have hF1 : ∀ i, F1 i → i ≠ b2 := fun i hi q => by
              rcases HG.out i hi with r | r
              · have := HLO.out i r; have := hge2.out; omega
              · have := hlt2.out; omega
            have hfw : Fr F w w1 := ((Fr.of_below HBI.out (Nat.le_refl _)).mono (fun _ q => q.elim)).trans HF.out (fun i hi => .inl hi)
            have hnb1 : ¬ F1 b1 := fun hi => by
              rcases HG.out b1 hi with r | r
              · have := HLO.out b1 r; have := hge1.out; omega
              · have := hlt1.out; omega
            rw [HR.out]
            exact ⟨none, 0, e3, hfs.at_ Y1.out hne.out, ⟨F1, HX.out.fr hfs (fun i hi q => hF1 i hi q), fun i hi => (HG.out i hi).imp id (fun q => Nat.le_trans HBI.out.size q), hnb1, (fun k off e => by cases e)⟩, (fun i x hx => by simp at hx), hfw.trans hfs (fun i hi => .inr (by rw [hi]; exact hge2.out))⟩
      · have n0 : ¬ o.kind = 0 := by simpa using q0
        have p1 : o.kind = 1 := by simpa using q1
        have HR := hid (show callR s o = _ from by unfold callR; rw [if_neg n0, if_pos p1])
        have HC := hid (put_any HAI.out o.work o.key o.val)
        clear n0 p1
        go_wp2_with fail
        refine HC.out.mono ?_
        rintro e w1 ⟨rfl, ⟨F1, hx1, hg1⟩, hf1⟩
        have y2 := hf1.at_ HX2.out (fun q => by have := HLO.out _ q; have := hge2.out; omega)
        have y1 := hf1.at_ HX1.out (fun q => by have := HLO.out _ q; have := hge1.out; omega)
        have g3 := cell_of_row w1 b2 3 _ _ _ y2
        have z3 : w1.frozen? ⟨b2, 3, none⟩ = false := by simp [World.frozen?, y2]
        have Y2 := hid y2
        have Y1 := hid y1
        have HX := hid hx1
        have HG := hid hg1
        have HF := hid hf1
        clear y2 y1 hx1 hg1 hf1 HC
        go_wp2_with fail
        have e3 := K.setCell_heap (off := 3) (Y2.out) (.int .i64 (s.change o.work ⟨1, o.key, o.val⟩).1)
        have hfs : Fr (fun i => i = b2) w1 (w1.setCell ⟨b2, 3, none⟩ (.int .i64 (s.change o.work ⟨1, o.key, o.val⟩).1)) := Fr.setCell (S := fun i => i = b2) (p := ⟨b2, 3, none⟩) (Fr.refl _ w1) (.inl rfl) (.int .i64 (s.change o.work ⟨1, o.key, o.val⟩).1)
        go_meet
        case rel =>
          have hF1 : ∀ i, F1 i → i ≠ b2 := fun i hi q => by
            rcases HG.out i hi with r | r
            · have := HLO.out i r; have := hge2.out; omega
            · have := hlt2.out; omega
          have hfw : Fr F w w1 := ((Fr.of_below HBI.out (Nat.le_refl _)).mono (fun _ q => q.elim)).trans HF.out (fun i hi => .inl hi)
          have hnb1 : ¬ F1 b1 := fun hi => by
            rcases HG.out b1 hi with r | r
            · have := HLO.out b1 r; have := hge1.out; omega
            · have := hlt1.out; omega
          rw [HR.out]
          exact ⟨none, 0, e3, hfs.at_ Y1.out hne.out, ⟨F1, HX.out.fr hfs (fun i hi q => hF1 i hi q), fun i hi => (HG.out i hi).imp id (fun q => Nat.le_trans HBI.out.size q), hnb1, (fun k off e => by cases e)⟩, (fun i x hx => by simp at hx), hfw.trans hfs (fun i hi => .inr (by rw [hi]; exact hge2.out))⟩
    · have p0 : o.kind = 0 := by simpa using q0
      have HR := hid (show callR s o = _ from by unfold callR; rw [if_pos p0])
      have HC := hid (get_any HAI.out o.work o.key)
      clear p0
      go_wp2_with fail
      refine HC.out.mono ?_
      rintro e w1 ⟨rfl, ⟨F1, hx1, hg1⟩, hf1⟩
      have y2 := hf1.at_ HX2.out (fun q => by have := HLO.out _ q; have := hge2.out; omega)
      have y1 := hf1.at_ HX1.out (fun q => by have := HLO.out _ q; have := hge1.out; omega)
      have g0 := cell_of_row w1 b2 0 _ _ _ y2
      have z0 : w1.frozen? ⟨b2, 0, none⟩ = false := by simp [World.frozen?, y2]
      have g1 := cell_of_row w1 b2 1 _ _ _ y2
      have z1 : w1.frozen? ⟨b2, 1, none⟩ = false := by simp [World.frozen?, y2]
      have g3 := cell_of_row w1 b2 3 _ _ _ y2
      have z3 : w1.frozen? ⟨b2, 3, none⟩ = false := by simp [World.frozen?, y2]
      have Y2 := hid y2
      have Y1 := hid y1
      have HX := hid hx1
      have HG := hid hg1
      have HF := hid hf1
      clear y2 y1 hx1 hg1 hf1 HC
      go_wp2_with fail
      have e0 := K.setCell_heap (off := 0) (Y2.out) (.int .u64 (s.get o.work o.key).1.1)
      have e1 := K.setCell_heap (off := 1) (e0) (.bool (s.get o.work o.key).1.2.1)
      have e3 := K.setCell_heap (off := 3) (e1) (.int .i64 (s.get o.work o.key).1.2.2)
      have hfs : Fr (fun i => i = b2) w1 (((w1.setCell ⟨b2, 0, none⟩ (.int .u64 (s.get o.work o.key).1.1)).setCell ⟨b2, 1, none⟩ (.bool (s.get o.work o.key).1.2.1)).setCell ⟨b2, 3, none⟩ (.int .i64 (s.get o.work o.key).1.2.2)) := Fr.setCell (S := fun i => i = b2) (p := ⟨b2, 3, none⟩) (Fr.setCell (S := fun i => i = b2) (p := ⟨b2, 1, none⟩) (Fr.setCell (S := fun i => i = b2) (p := ⟨b2, 0, none⟩) (Fr.refl _ w1) (.inl rfl) (.int .u64 (s.get o.work o.key).1.1)) (.inl rfl) (.bool (s.get o.work o.key).1.2.1)) (.inl rfl) (.int .i64 (s.get o.work o.key).1.2.2)
      go_meet
      case rel =>
        have hF1 : ∀ i, F1 i → i ≠ b2 := fun i hi q => by
          rcases HG.out i hi with r | r
          · have := HLO.out i r; have := hge2.out; omega
          · have := hlt2.out; omega
        have hfw : Fr F w w1 := ((Fr.of_below HBI.out (Nat.le_refl _)).mono (fun _ q => q.elim)).trans HF.out (fun i hi => .inl hi)
        have hnb1 : ¬ F1 b1 := fun hi => by
          rcases HG.out b1 hi with r | r
          · have := HLO.out b1 r; have := hge1.out; omega
          · have := hlt1.out; omega
        rw [HR.out]
        exact ⟨none, 0, e3, hfs.at_ Y1.out hne.out, ⟨F1, HX.out.fr hfs (fun i hi q => hF1 i hi q), fun i hi => (HG.out i hi).imp id (fun q => Nat.le_trans HBI.out.size q), hnb1, (fun k off e => by cases e)⟩, (fun i x hx => by simp at hx), hfw.trans hfs (fun i hi => .inr (by rw [hi]; exact hge2.out))⟩
  case rest =>
    obtain ⟨A, c, y2, y1, ⟨F1, hx1, hg1, hnb1, ho1⟩, hat1, hf1⟩ := hcut
    have HX := hid hx1
    have HG := hid hg1
    have HO := hid ho1
    have HAT := hid hat1
    have HF := hid hf1
    clear hx1 hg1 ho1 hat1 hf1
    have g0 := cell_of_row wc b2 0 _ _ _ y2
    have r0 := cell_of_row wc b1 0 _ _ _ y1
    have z0 : wc.frozen? ⟨b1, 0, none⟩ = false := by simp [World.frozen?, y1]
    have g1 := cell_of_row wc b2 1 _ _ _ y2
    have r1 := cell_of_row wc b1 1 _ _ _ y1
    have z1 : wc.frozen? ⟨b1, 1, none⟩ = false := by simp [World.frozen?, y1]
    have g2 := cell_of_row wc b2 2 _ _ _ y2
    have r2 := cell_of_row wc b1 2 _ _ _ y1
    have z2 : wc.frozen? ⟨b1, 2, none⟩ = false := by simp [World.frozen?, y1]
    have g3 := cell_of_row wc b2 3 _ _ _ y2
    have r3 := cell_of_row wc b1 3 _ _ _ y1
    have z3 : wc.frozen? ⟨b1, 3, none⟩ = false := by simp [World.frozen?, y1]
    have Y1 := hid y1
    clear y1 y2 k0 k1 k2 k3 k4
    go_wp2_with fail
    have e0 := K.setCell_heap (off := 0) (Y1.out) (.int .u64 (callR s o).1.v)
    have e1 := K.setCell_heap (off := 1) (e0) (.bool (callR s o).1.t)
    have e2 := K.setCell_heap (off := 2) (e1) (.slice A (callR s o).1.l.length c)
    have e3 := K.setCell_heap (off := 3) (e2) (.int .i64 (callR s o).1.e)
    have e4 : ((((wc.setCell ⟨b1, 0, none⟩ (.int .u64 (callR s o).1.v)).setCell ⟨b1, 1, none⟩ (.bool (callR s o).1.t)).setCell ⟨b1, 2, none⟩ (.slice A (callR s o).1.l.length c)).setCell ⟨b1, 3, none⟩ (.int .i64 (callR s o).1.e)).heap[b1]? = some (.cells #[.int .u64 (callR s o).1.v, .bool (callR s o).1.t, .slice A (callR s o).1.l.length c, .int .i64 (callR s o).1.e] 47 (0, 0)) := e3
    have hfs : Fr (fun i => i = b1) wc ((((wc.setCell ⟨b1, 0, none⟩ (.int .u64 (callR s o).1.v)).setCell ⟨b1, 1, none⟩ (.bool (callR s o).1.t)).setCell ⟨b1, 2, none⟩ (.slice A (callR s o).1.l.length c)).setCell ⟨b1, 3, none⟩ (.int .i64 (callR s o).1.e)) := Fr.setCell (S := fun i => i = b1) (p := ⟨b1, 3, none⟩) (Fr.setCell (S := fun i => i = b1) (p := ⟨b1, 2, none⟩) (Fr.setCell (S := fun i => i = b1) (p := ⟨b1, 1, none⟩) (Fr.setCell (S := fun i => i = b1) (p := ⟨b1, 0, none⟩) (Fr.refl _ wc) (.inl rfl) (.int .u64 (callR s o).1.v)) (.inl rfl) (.bool (callR s o).1.t)) (.inl rfl) (.slice A (callR s o).1.l.length c)) (.inl rfl) (.int .i64 (callR s o).1.e)
    refine bodyPost_ret (results_cell_row rfl _ _ b1 47 _ (0, 0) _ rfl e4 Tryz.underlying47 rfl (by kernel_rfl)) rfl ?_
    exact ⟨A, c, rfl, ⟨F1, HX.out.fr hfs (fun i hi q => hnb1 (q ▸ hi)), HG.out, fun k off e => ⟨(HO.out k off e).1, (HO.out k off e).2.1⟩⟩, row_fr HAT.out hfs (fun k off e q => (HO.out k off e).2.2 q), HF.out.trans hfs (fun i hi => .inr (by rw [hi]; exact hge1.out))⟩
end Go.Proofs.YtdejbinmnoabeaaGreat
