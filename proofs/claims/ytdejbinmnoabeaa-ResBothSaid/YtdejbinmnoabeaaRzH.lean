/- Walks of the statements' As and of trothref15.Same at equal images. Conditions: the images read as ImgAt says. -/
import Derived.Test.YtdejbinmnoabeaaRzG0
namespace Go.Proofs.Ytdejbinmnoabeaa
open Go.RowKit Go.Mine Go.Proofs.YtdejbinmnoabeaaW.PrintWords
set_option linter.unusedVariables false
set_option linter.unusedSimpArgs false
theorem info93 : (Try.prog.info? 93).map (fun i => (i.zero, i.size, i.bytes)) = some (some (.agg #[.int .i64 0, .int .u64 0]), 2, 16) := by kernel_rfl
theorem row_keep2 {w w1 : World} {base : Nat} {v : Value} {l : List (Int × Int)} (h : eP.kd.R 93 w base (fun _ => True) v l) (hm : ∀ k, v.ownBlock = some k → w1.heap[k]? = w.heap[k]?) : eP.kd.R 93 w1 base (fun _ => True) v l := by
  obtain ⟨h0, inner, ho, hr⟩ := h
  exact ⟨h0, inner, own_move ho hm, hr⟩
set_option maxRecDepth 100000 in
set_option maxHeartbeats 4000000 in
theorem as_any {w : World} {v : Value} {m : Img} (h : ImgAt w w.heap.size v m) (hn : m.P.length ≤ 100) :
    Calls Try.prog 18 #[v] w fun e w' => ∃ v', e = .returned v' ∧ ImgAt w' w'.heap.size v' m ∧ Below w.heap.size w w' := by
  obtain ⟨A1, c1, A2, c2, rfl, hp, hu, hc1, hc2⟩ := h
  obtain ⟨wi, hwi⟩ : ∃ wi, wi = (w.alloc (.cells #[.slice A1 m.P.length c1, .slice A2 m.L.length c2, .int .i64 m.nx] 49)).alloc (.cells #[.slice none 0 0, .slice none 0 0, .int .i64 0] 45) := ⟨_, rfl⟩
  have hb1 : Below w.heap.size w (w.alloc (.cells #[.slice A1 m.P.length c1, .slice A2 m.L.length c2, .int .i64 m.nx] 49)) := (Below.refl _ _).alloc (Nat.le_refl _) _
  have hb2 : Below w.heap.size w wi := by rw [hwi]; exact hb1.alloc hb1.size _
  have hx0 : wi.heap[w.heap.size]? = some (.cells #[.slice A1 m.P.length c1, .slice A2 m.L.length c2, .int .i64 m.nx] 49 (0, 0)) := by
    rw [hwi]; exact (((Below.refl _ _).alloc (Nat.le_refl _) _ : Below (w.alloc (.cells #[.slice A1 m.P.length c1, .slice A2 m.L.length c2, .int .i64 m.nx] 49)).heap.size (w.alloc (.cells #[.slice A1 m.P.length c1, .slice A2 m.L.length c2, .int .i64 m.nx] 49)) _).block _ (by simp)).trans (MapKept.heap_alloc w _).1
  have hx1 : wi.heap[w.heap.size + 1]? = some (.cells #[.slice none 0 0, .slice none 0 0, .int .i64 0] 45 (0, 0)) := by
    rw [hwi]
    have := (MapKept.heap_alloc (w.alloc (.cells #[.slice A1 m.P.length c1, .slice A2 m.L.length c2, .int .i64 m.nx] 49)) (.cells #[.slice none 0 0, .slice none 0 0, .int .i64 0] 45)).1
    rwa [World.size_alloc] at this
  have hsi : wi.heap.size = w.heap.size + 2 := by rw [hwi]; simp
  obtain ⟨wj, hwj⟩ : ∃ wj, wj = wi.alloc (.cells #[.slice none 0 0, .slice A2 m.L.length c2, .int .i64 m.nx] 45) := ⟨_, rfl⟩
  have hb3 : Below wi.heap.size wi wj := by rw [hwj]; exact (Below.refl _ _).alloc (Nat.le_refl _) _
  have hx2 : wj.heap[w.heap.size + 2]? = some (.cells #[.slice none 0 0, .slice A2 m.L.length c2, .int .i64 m.nx] 45 (0, 0)) := by
    have := (MapKept.heap_alloc wi (.cells #[.slice none 0 0, .slice A2 m.L.length c2, .int .i64 m.nx] 45)).1
    rw [hsi] at this
    rw [hwj]; exact this
  have hbj : Below w.heap.size w wj := hb2.trans (hb3.mono hb2.size)
  have hy0 := (hb3.block _ (by omega)).trans hx0
  have hy1 := (hb3.block _ (by omega)).trans hx1
  have hsj : wj.heap.size = w.heap.size + 3 := by rw [hwj, World.size_alloc, hsi]
  have q0 := cell_of_row wi _ 0 _ _ _ hx0
  have q1 := cell_of_row wi _ 1 _ _ _ hx0
  have q2 := cell_of_row wi _ 2 _ _ _ hx0
  have HP := hid hp
  have HU := hid hu
  have HBJ := hid hbj
  have HY0 := hid hy0
  have HY1 := hid hy1
  have HX2 := hid hx2
  have HSJ := hid hsj
  have HSI := hid hsi
  have HWI := hid hwi
  have HWJ := hid hwj
  clear hp hu hb1 hb2 hx0 hx1 hb3 hx2 hbj hy0 hy1 hsj hsi hwi hwj
  go_enter Try.func18, Try.ntmps18
  go_wp2_with fail
  have hW3 : (((w.alloc (.cells #[.slice A1 m.P.length c1, .slice A2 m.L.length c2, .int .i64 m.nx] 49)).alloc (.cells #[.slice none 0 0, .slice none 0 0, .int .i64 0] 45)).alloc (.cells #[.slice none 0 0, .slice A2 m.L.length c2, .int .i64 m.nx] 45)) = wj := by rw [HWJ.out, HWI.out]
  rw [hW3]
  clear hW3 HWI HWJ q0 q1 q2
  have hb01 : w.heap.size < wj.heap.size := by rw [HSJ.out]; omega
  have hb12 : w.heap.size + 1 < wj.heap.size := by rw [HSJ.out]; omega
  have hb23 : w.heap.size + 1 + 1 < wj.heap.size := by rw [HSJ.out]; omega
  have hne02 : w.heap.size + 1 ≠ w.heap.size + 1 + 1 := by omega
  have hge1 : w.heap.size ≤ w.heap.size + 1 := by omega
  have hX2' : wj.heap[w.heap.size + 1 + 1]? = some (.cells #[.slice none 0 0, .slice A2 m.L.length c2, .int .i64 m.nx] 45 (0, 0)) := HX2.out
  have HX2 := hid hX2'
  have hge2 : w.heap.size ≤ w.heap.size + 1 + 1 := by omega
  have HB01 := hid hb01
  have HB12 := hid hb12
  have HB23 := hid hb23
  have HNE := hid hne02
  have HGE1 := hid hge1
  have HGE2 := hid hge2
  clear hX2' hb01 hb12 hb23 hne02 hge1 hge2 HSJ HSI
  generalize w.heap.size + 1 + 1 = b2 at *
  generalize w.heap.size + 1 = b1 at *
  obtain ⟨b0, hb0⟩ : ∃ b0, b0 = w.heap.size := ⟨_, rfl⟩
  have HB0 := hid hb0
  have HY0' : Hid (wj.heap[b0]? = some (.cells #[.slice A1 m.P.length c1, .slice A2 m.L.length c2, .int .i64 m.nx] 49 (0, 0))) := hid (by rw [hb0]; exact HY0.out)
  have HB01' : Hid (b0 < wj.heap.size) := hid (by rw [hb0]; exact HB01.out)
  rw [← hb0]
  clear hb0 HY0 HB01
  go_loopg [4] (m.P.length + 1) (fun g v wr => ∃ (i : Nat) (v1 : Value), v = .int .i64 i ∧ i ≤ m.P.length ∧ g = m.P.length + 1 - i ∧ wr.heap[b2]? = some (.cells #[v1, .slice A2 m.L.length c2, .int .i64 m.nx] 45 (0, 0)) ∧ wr.heap[b0]? = some (.cells #[.slice A1 m.P.length c1, .slice A2 m.L.length c2, .int .i64 m.nx] 49 (0, 0)) ∧ wr.heap[b1]? = some (.cells #[.slice none 0 0, .slice none 0 0, .int .i64 0] 45 (0, 0)) ∧ eP.kd.R 93 wr wj.heap.size (fun _ => True) v1 (m.P.take i) ∧ Below w.heap.size w wr ∧ wj.heap.size ≤ wr.heap.size)
  case atStart => exact ⟨0, _, rfl, Nat.zero_le _, rfl, HX2.out, HY0'.out, HY1.out, Kd.R_nil _ _ _ _ _, HBJ.out, Nat.le_refl _⟩
  case round =>
    obtain ⟨i, v1, rfl, hi, hm, hblk, hy0, hy1, hrow, hbw, hsz⟩ := hrel
    have HM := hid hm
    obtain ⟨A3, c3, hv3⟩ := Kd.R_slice hrow
    subst hv3
    have q0 := cell_of_row wr b0 0 _ _ _ hy0
    have p0 := cell_of_row wr b2 0 _ _ _ hblk
    have HBK := hid hblk
    have HY0 := hid hy0
    have HY1 := hid hy1
    have HROW := hid hrow
    have HBW := hid hbw
    have HFR : Hid (Q.FR eP 93 wr (.slice A3 (m.P.take i).length c3) (m.P.take i)) := hid (Kd.R_lower hrow (Nat.zero_le _))
    clear hm hblk hy0 hy1 hrow HX2 HY0' HBJ
    by_cases h1 : i < m.P.length
    · obtain ⟨x, hx⟩ : ∃ x, m.P[i]? = some x := ⟨_, List.getElem?_eq_getElem h1⟩
      obtain ⟨b', off, rfl, hbb, hcc⟩ := (HP.out.below HBW.out) i x hx
      have k0 : wr.cell? ⟨b', off + i * 2, none⟩ = some (.int .i64 x.1) := hcc 0 _ rfl
      have k1 : wr.cell? ⟨b', off + i * 2 + 1, none⟩ = some (.int .u64 x.2) := hcc 1 _ rfl
      have HST := hid (show m.P.take (i + 1) = m.P.take i ++ [x] from by
        rw [List.take_succ_eq_append_getElem h1]
        congr 2
        exact (List.getElem?_eq_some_iff.1 hx).2)
      have hlt : (m.P.take i).length ≤ 100 := by rw [List.length_take]; omega
      generalize m.P.take i = xs at *
      clear hcc hx hbw
      go_wp2_with fail
      have hd : Below wr.heap.size wr wr.drew := Q.bd1 wr
      have p0d : (wr.alloc (.cells #[.int .i64 x.1, .int .u64 x.2] 93)).cell? ⟨b2, 0, none⟩ = some (.slice A3 xs.length c3) := by rw [World.cell?_alloc_lt _ _ _ (World.block_lt_of_cell? _ _ p0)]; exact p0
      have HBKD : Hid (wr.drew.heap[b2]? = some (.cells #[.slice A3 xs.length c3, .slice A2 m.L.length c2, .int .i64 m.nx] 45 (0, 0))) := hid HBK.out
      have HY0D : Hid (wr.drew.heap[b0]? = _) := hid HY0.out
      have HY1D : Hid (wr.drew.heap[b1]? = _) := hid HY1.out
      have HROWD := hid (Kd.R_below HROW.out hd)
      have HBWD := hid (HBW.out.trans (hd.mono HBW.out.size))
      have HFRD : Hid (Q.FR eP 93 wr.drew (.slice A3 xs.length c3) xs) := hid (Kd.R_lower HROWD.out (Nat.zero_le _))
      have hszd : wj.heap.size ≤ wr.drew.heap.size := hsz
      have hbd : Below wj.heap.size wr.drew wr.drew := ⟨rfl, rfl, rfl, Nat.le_refl _, fun _ _ => rfl⟩
      clear hd HBK HY0 HY1 HROW HBW HFR
      go_region_law (refine Kd.R_append_step eP.kd (w0 := wr.drew) wj.heap.size (by rfl) (.tmp 18) (.tmp 32) 42 93 _ 16 rfl Try.underlying42 info93 (by rfl) (by decide) (by decide) (.slice A3 xs.length c3) xs x [.int .i64 x.1, .int .u64 x.2] (fun _ => True) (fun _ => False) (by simp [Act.eval, Act.put]) (by simp [Act.eval, Act.put]) rfl (fun _ q => q.elim) (fun _ _ => trivial) HROWD.out hbd hszd (by omega) ?_; intro v8 w8 ho8 hb8 hg8 hat8; have hx8 : w8.heap[b2]? = some (.cells #[.slice A3 xs.length c3, .slice A2 m.L.length c2, .int .i64 m.nx] 45 (0, 0)) := (hg8.block _ (Q.blk_lt HBKD.out) (fun q => Q.types_ne (Q.FR.typed HFRD.out q.symm) ⟨_, HBKD.out⟩ (by decide))).trans HBKD.out; have hz8 : w8.frozen? ⟨b2, 0, none⟩ = false := (by simp [World.frozen?, hx8]); have hc8 : w8.cell? ⟨b2, 0, none⟩ = some (.slice A3 xs.length c3) := (by rw [cell_of_row w8 _ 0 _ _ _ hx8]; rfl); have HO8 := hid ho8; have HB8 := hid hb8; have HG8 := hid hg8; have HX8 := hid hx8; obtain ⟨A8, c8, hv8⟩ := Kd.R_slice HO8.out; rw [List.length_append, List.length_singleton] at hv8; subst hv8; clear ho8 hb8 hg8 hat8 hx8)
      all_goals
        go_wp2_with fail
        go_roundg (m.P.length + 1 - (i + 1))
        case measure => rw [HM.out]; omega
        case rel =>
          have hfs : Fr (fun i => i = b2) w8 (w8.setCell ⟨b2, 0, none⟩ (.slice A8 (xs.length + 1) c8)) := Fr.setCell (S := fun i => i = b2) (p := ⟨b2, 0, none⟩) (Fr.refl _ w8) (.inl rfl) _
          have hf8 : Fr (fun k => (Value.slice A3 xs.length c3).ownBlock = some k) wr.drew w8 := Fr.of_grown HG8.out
          have hbase : ∀ k, (Value.slice A3 xs.length c3).ownBlock = some k → wj.heap.size ≤ k := fun k hk => Kd.R_base HROWD.out k hk
          have hrow8 : eP.kd.R 93 w8 wj.heap.size (fun _ => True) (.slice A8 (xs.length + 1) c8) (xs ++ [x]) := HO8.out
          have hFR8 : Q.FR eP 93 w8 (.slice A8 (xs.length + 1) c8) (xs ++ [x]) := Kd.R_lower hrow8 (Nat.zero_le _)
          have hne8 : ∀ k, (Value.slice A8 (xs.length + 1) c8).ownBlock = some k → k ≠ b2 := fun k hk e => Q.types_ne (Q.FR.typed hFR8 hk) ⟨_, e ▸ HX8.out⟩ (by decide)
          have h02 : b0 ≠ b2 := fun q => Q.types_ne ⟨_, HY0D.out⟩ ⟨_, q ▸ HBKD.out⟩ (by decide)
          have hy0' := hfs.at_ (hf8.at_ HY0D.out (fun q => by have := hbase _ q; have := HB01'.out; omega)) h02
          have hy1' := hfs.at_ (hf8.at_ HY1D.out (fun q => by have := hbase _ q; have := HB12.out; omega)) HNE.out
          have hb0' := HB0.out
          have hbl8 : Below w.heap.size wr.drew w8 := hf8.below HBWD.out.size (fun k hk q => by have := hbase _ q; have := HB01'.out; omega)
          have hbl9 : Below w.heap.size w8 (w8.setCell ⟨b2, 0, none⟩ (.slice A8 (xs.length + 1) c8)) := hfs.below (Nat.le_trans HBWD.out.size hf8.size) (fun k hk q => by have := HGE2.out; omega)
          exact ⟨i + 1, _, by go_num, by omega, rfl, K.setCell_heap (off := 0) HX8.out _, hy0', hy1', by rw [HST.out]; exact row_keep2 hrow8 (fun k hk => hfs.block k (hFR8.lt hk) (hne8 k hk)), HBWD.out.trans (hbl8.trans hbl9), Nat.le_trans hszd (Nat.le_trans hf8.size hfs.size)⟩
    · have hi' : i = m.P.length := by omega
      have ht : m.P.take i = m.P := by rw [hi']; exact List.take_length
      rw [ht] at HROW HFR HBK p0
      have r1 := cell_of_row wr b2 1 _ _ _ HBK.out
      have r2 := cell_of_row wr b2 2 _ _ _ HBK.out
      have g0 := cell_of_row wr b1 0 _ _ _ HY1.out
      have g1 := cell_of_row wr b1 1 _ _ _ HY1.out
      have g2 := cell_of_row wr b1 2 _ _ _ HY1.out
      have y0 : wr.frozen? ⟨b1, 0, none⟩ = false := by simp [World.frozen?, HY1.out]
      have y1 : wr.frozen? ⟨b1, 1, none⟩ = false := by simp [World.frozen?, HY1.out]
      have y2 : wr.frozen? ⟨b1, 2, none⟩ = false := by simp [World.frozen?, HY1.out]
      have HI := hid hi'
      clear ht hi' hbw
      go_wp2_with fail
      have e1 := K.setCell_heap (off := 0) HY1.out (.slice A3 m.P.length c3)
      have e2 := K.setCell_heap (off := 1) e1 (.slice A2 m.L.length c2)
      have e3 : (((wr.setCell ⟨b1, 0, none⟩ (.slice A3 m.P.length c3)).setCell ⟨b1, 1, none⟩ (.slice A2 m.L.length c2)).setCell ⟨b1, 2, none⟩ (.int .i64 m.nx)).heap[b1]? = some (.cells #[.slice A3 m.P.length c3, .slice A2 m.L.length c2, .int .i64 m.nx] 45 (0, 0)) := K.setCell_heap (off := 2) e2 (.int .i64 m.nx)
      have hfr : Fr (fun i => i = b1) wr (((wr.setCell ⟨b1, 0, none⟩ (.slice A3 m.P.length c3)).setCell ⟨b1, 1, none⟩ (.slice A2 m.L.length c2)).setCell ⟨b1, 2, none⟩ (.int .i64 m.nx)) := Fr.setCell (S := fun i => i = b1) (p := ⟨b1, 2, none⟩) (Fr.setCell (S := fun i => i = b1) (p := ⟨b1, 1, none⟩) (Fr.setCell (S := fun i => i = b1) (p := ⟨b1, 0, none⟩) (Fr.refl _ wr) (.inl rfl) _) (.inl rfl) _) (.inl rfl) _
      refine bodyPost_ret (results_cell_row rfl _ _ b1 45 _ (0, 0) _ rfl e3 Try.underlying45 rfl (by kernel_rfl)) rfl ?_
      have hbl : Below w.heap.size w (((wr.setCell ⟨b1, 0, none⟩ (.slice A3 m.P.length c3)).setCell ⟨b1, 1, none⟩ (.slice A2 m.L.length c2)).setCell ⟨b1, 2, none⟩ (.int .i64 m.nx)) := HBW.out.trans (hfr.below HBW.out.size (fun k hk q => by have := HGE1.out; omega))
      have hFR2 := HFR.out.move (fun k hk => hfr.block k (HFR.out.lt hk) (fun e => Q.types_ne (Q.FR.typed HFR.out hk) ⟨_, e ▸ HY1.out⟩ (by decide)))
      obtain ⟨A3', c3', ev, hc3, hat3⟩ := hFR2.at_
      cases ev
      exact ⟨_, rfl, ⟨A3, c3, A2, c2, rfl, hat3, (HU.out.below hbl).up hbl.size, hc3, hc2⟩, hbl⟩
end Go.Proofs.Ytdejbinmnoabeaa
