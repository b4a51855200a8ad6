/- Texts of this seat, put together: RzH, RdE, RyK, RzK, RzI. -/
import Derived.Test.YtdejbinmnoabeaaGreatBm23
import Derived.Test.YtdejbinmnoabeaaGreatBm19
import Derived.Test.YtdejbinmnoabeaaGreatBm20
import Derived.Test.YtdejbinmnoabeaaGreatBm22
namespace Go.Proofs.YtdejbinmnoabeaaGreat
open Go.RowKit Go.Mine Go.Proofs.YtdejbinmnoabeaaGreatW.PrintWords
set_option linter.unusedVariables false
set_option linter.unusedSimpArgs false
theorem info106 : (Tryz.prog.info? 106).map (fun i => (i.zero, i.size, i.bytes)) = some (some (.agg #[.int .i64 0, .int .u64 0]), 2, 16) := by kernel_rfl
theorem row_keep2 {w w1 : World} {base : Nat} {v : Value} {l : List (Int × Int)} (h : eP.kd.R 106 w base (fun _ => True) v l) (hm : ∀ k, v.ownBlock = some k → w1.heap[k]? = w.heap[k]?) : eP.kd.R 106 w1 base (fun _ => True) v l := by
  obtain ⟨h0, inner, ho, hr⟩ := h
  exact ⟨h0, inner, own_move ho hm, hr⟩
set_option maxRecDepth 100000 in
set_option maxHeartbeats 4000000 in
theorem as_any {w : World} {v : Value} {m : Img} (h : ImgAt w w.heap.size v m) (hn : m.P.length ≤ 100) :
    Calls Tryz.prog 13 #[v] w fun e w' => ∃ v', e = .returned v' ∧ ImgAt w' w'.heap.size v' m ∧ Below w.heap.size w w' := by
  obtain ⟨A1, c1, A2, c2, rfl, hp, hu, hc1, hc2⟩ := h
  obtain ⟨wi, hwi⟩ : ∃ wi, wi = (w.alloc (.cells #[.slice A1 m.P.length c1, .slice A2 m.L.length c2, .int .i64 m.nx] 58)).alloc (.cells #[.slice none 0 0, .slice none 0 0, .int .i64 0] 54) := ⟨_, rfl⟩
  have hb1 : Below w.heap.size w (w.alloc (.cells #[.slice A1 m.P.length c1, .slice A2 m.L.length c2, .int .i64 m.nx] 58)) := (Below.refl _ _).alloc (Nat.le_refl _) _
  have hb2 : Below w.heap.size w wi := by rw [hwi]; exact hb1.alloc hb1.size _
  have hx0 : wi.heap[w.heap.size]? = some (.cells #[.slice A1 m.P.length c1, .slice A2 m.L.length c2, .int .i64 m.nx] 58 (0, 0)) := by
    rw [hwi]; exact (((Below.refl _ _).alloc (Nat.le_refl _) _ : Below (w.alloc (.cells #[.slice A1 m.P.length c1, .slice A2 m.L.length c2, .int .i64 m.nx] 58)).heap.size (w.alloc (.cells #[.slice A1 m.P.length c1, .slice A2 m.L.length c2, .int .i64 m.nx] 58)) _).block _ (by simp)).trans (MapKept.heap_alloc w _).1
  have hx1 : wi.heap[w.heap.size + 1]? = some (.cells #[.slice none 0 0, .slice none 0 0, .int .i64 0] 54 (0, 0)) := by
    rw [hwi]
    have := (MapKept.heap_alloc (w.alloc (.cells #[.slice A1 m.P.length c1, .slice A2 m.L.length c2, .int .i64 m.nx] 58)) (.cells #[.slice none 0 0, .slice none 0 0, .int .i64 0] 54)).1
    rwa [World.size_alloc] at this
  have hsi : wi.heap.size = w.heap.size + 2 := by rw [hwi]; simp
  obtain ⟨wj, hwj⟩ : ∃ wj, wj = wi.alloc (.cells #[.slice none 0 0, .slice A2 m.L.length c2, .int .i64 m.nx] 54) := ⟨_, rfl⟩
  have hb3 : Below wi.heap.size wi wj := by rw [hwj]; exact (Below.refl _ _).alloc (Nat.le_refl _) _
  have hx2 : wj.heap[w.heap.size + 2]? = some (.cells #[.slice none 0 0, .slice A2 m.L.length c2, .int .i64 m.nx] 54 (0, 0)) := by
    have := (MapKept.heap_alloc wi (.cells #[.slice none 0 0, .slice A2 m.L.length c2, .int .i64 m.nx] 54)).1
    rw [hsi] at this
    rw [hwj]; exact this
  have hbj : Below w.heap.size w wj := hb2.trans (hb3.mono hb2.size)
  have hy0 := (hb3.block _ (by omega)).trans hx0
  have hy1 := (hb3.block _ (by omega)).trans hx1
  have hsj : wj.heap.size = w.heap.size + 3 := by rw [hwj, World.size_alloc, hsi]
  have q0 := cell_of_row wi _ 0 _ _ _ hx0
  have q1 := cell_of_row wi _ 1 _ _ _ hx0
  have q2 := cell_of_row wi _ 2 _ _ _ hx0
  have HP := hid hp
  have HU := hid hu
  have HBJ := hid hbj
  have HY0 := hid hy0
  have HY1 := hid hy1
  have HX2 := hid hx2
  have HSJ := hid hsj
  have HSI := hid hsi
  have HWI := hid hwi
  have HWJ := hid hwj
  clear hp hu hb1 hb2 hx0 hx1 hb3 hx2 hbj hy0 hy1 hsj hsi hwi hwj
  go_enter Tryz.func13, Tryz.ntmps13
  go_wp2_with fail
  have hW3 : (((w.alloc (.cells #[.slice A1 m.P.length c1, .slice A2 m.L.length c2, .int .i64 m.nx] 58)).alloc (.cells #[.slice none 0 0, .slice none 0 0, .int .i64 0] 54)).alloc (.cells #[.slice none 0 0, .slice A2 m.L.length c2, .int .i64 m.nx] 54)) = wj := by rw [HWJ.out, HWI.out]
  rw [hW3]
  clear hW3 HWI HWJ q0 q1 q2
  have hb01 : w.heap.size < wj.heap.size := by rw [HSJ.out]; omega
  have hb12 : w.heap.size + 1 < wj.heap.size := by rw [HSJ.out]; omega
  have hb23 : w.heap.size + 1 + 1 < wj.heap.size := by rw [HSJ.out]; omega
  have hne02 : w.heap.size + 1 ≠ w.heap.size + 1 + 1 := by omega
  have hge1 : w.heap.size ≤ w.heap.size + 1 := by omega
  have hX2' : wj.heap[w.heap.size + 1 + 1]? = some (.cells #[.slice none 0 0, .slice A2 m.L.length c2, .int .i64 m.nx] 54 (0, 0)) := HX2.out
  have HX2 := hid hX2'
  have hge2 : w.heap.size ≤ w.heap.size + 1 + 1 := by omega
  have HB01 := hid hb01
  have HB12 := hid hb12
  have HB23 := hid hb23
  have HNE := hid hne02
  have HGE1 := hid hge1
  have HGE2 := hid hge2
  clear hX2' hb01 hb12 hb23 hne02 hge1 hge2 HSJ HSI
  generalize w.heap.size + 1 + 1 = b2 at *
  generalize w.heap.size + 1 = b1 at *
  obtain ⟨b0, hb0⟩ : ∃ b0, b0 = w.heap.size := ⟨_, rfl⟩
  have HB0 := hid hb0
  have HY0' : Hid (wj.heap[b0]? = some (.cells #[.slice A1 m.P.length c1, .slice A2 m.L.length c2, .int .i64 m.nx] 58 (0, 0))) := hid (by rw [hb0]; exact HY0.out)
  have HB01' : Hid (b0 < wj.heap.size) := hid (by rw [hb0]; exact HB01.out)
  rw [← hb0]
  clear hb0 HY0 HB01
  go_loopg [4] (m.P.length + 1) (fun g v wr => ∃ (i : Nat) (v1 : Value), v = .int .i64 i ∧ i ≤ m.P.length ∧ g = m.P.length + 1 - i ∧ wr.heap[b2]? = some (.cells #[v1, .slice A2 m.L.length c2, .int .i64 m.nx] 54 (0, 0)) ∧ wr.heap[b0]? = some (.cells #[.slice A1 m.P.length c1, .slice A2 m.L.length c2, .int .i64 m.nx] 58 (0, 0)) ∧ wr.heap[b1]? = some (.cells #[.slice none 0 0, .slice none 0 0, .int .i64 0] 54 (0, 0)) ∧ eP.kd.R 106 wr wj.heap.size (fun _ => True) v1 (m.P.take i) ∧ Below w.heap.size w wr ∧ wj.heap.size ≤ wr.heap.size)
  case atStart => exact ⟨0, _, rfl, Nat.zero_le _, rfl, HX2.out, HY0'.out, HY1.out, Kd.R_nil _ _ _ _ _, HBJ.out, Nat.le_refl _⟩
  case round =>
    obtain ⟨i, v1, rfl, hi, hm, hblk, hy0, hy1, hrow, hbw, hsz⟩ := hrel
    have HM := hid hm
    obtain ⟨A3, c3, hv3⟩ := Kd.R_slice hrow
    subst hv3
    have q0 := cell_of_row wr b0 0 _ _ _ hy0
    have p0 := cell_of_row wr b2 0 _ _ _ hblk
    have HBK := hid hblk
    have HY0 := hid hy0
    have HY1 := hid hy1
    have HROW := hid hrow
    have HBW := hid hbw
    have HFR : Hid (Q.FR eP 106 wr (.slice A3 (m.P.take i).length c3) (m.P.take i)) := hid (Kd.R_lower hrow (Nat.zero_le _))
    clear hm hblk hy0 hy1 hrow HX2 HY0' HBJ
    by_cases h1 : i < m.P.length
    · obtain ⟨x, hx⟩ : ∃ x, m.P[i]? = some x := ⟨_, List.getElem?_eq_getElem h1⟩
      obtain ⟨b', off, rfl, hbb, hcc⟩ := (HP.out.below HBW.out) i x hx
      have k0 : wr.cell? ⟨b', off + i * 2, none⟩ = some (.int .i64 x.1) := hcc 0 _ rfl
      have k1 : wr.cell? ⟨b', off + i * 2 + 1, none⟩ = some (.int .u64 x.2) := hcc 1 _ rfl
      have HST := hid (show m.P.take (i + 1) = m.P.take i ++ [x] from by
        rw [List.take_succ_eq_append_getElem h1]
        congr 2
        exact (List.getElem?_eq_some_iff.1 hx).2)
      have hlt : (m.P.take i).length ≤ 100 := by rw [List.length_take]; omega
      generalize m.P.take i = xs at *
      clear hcc hx hbw
      go_wp2_with fail
      have hd : Below wr.heap.size wr wr.drew := Q.bd1 wr
      have p0d : (wr.alloc (.cells #[.int .i64 x.1, .int .u64 x.2] 106)).cell? ⟨b2, 0, none⟩ = some (.slice A3 xs.length c3) := by rw [World.cell?_alloc_lt _ _ _ (World.block_lt_of_cell? _ _ p0)]; exact p0
      have HBKD : Hid (wr.drew.heap[b2]? = some (.cells #[.slice A3 xs.length c3, .slice A2 m.L.length c2, .int .i64 m.nx] 54 (0, 0))) := hid HBK.out
      have HY0D : Hid (wr.drew.heap[b0]? = _) := hid HY0.out
      have HY1D : Hid (wr.drew.heap[b1]? = _) := hid HY1.out
      have HROWD := hid (Kd.R_below HROW.out hd)
      have HBWD := hid (HBW.out.trans (hd.mono HBW.out.size))
      have HFRD : Hid (Q.FR eP 106 wr.drew (.slice A3 xs.length c3) xs) := hid (Kd.R_lower HROWD.out (Nat.zero_le _))
      have hszd : wj.heap.size ≤ wr.drew.heap.size := hsz
      have hbd : Below wj.heap.size wr.drew wr.drew := ⟨rfl, rfl, rfl, Nat.le_refl _, fun _ _ => rfl⟩
      clear hd HBK HY0 HY1 HROW HBW HFR
      go_region_law (refine Kd.R_append_step eP.kd (w0 := wr.drew) wj.heap.size (by rfl) (.tmp 18) (.tmp 32) 26 106 _ 16 rfl Tryz.underlying26 info106 (by rfl) (by decide) (by decide) (.slice A3 xs.length c3) xs x [.int .i64 x.1, .int .u64 x.2] (fun _ => True) (fun _ => False) (by simp [Act.eval, Act.put]) (by simp [Act.eval, Act.put]) rfl (fun _ q => q.elim) (fun _ _ => trivial) HROWD.out hbd hszd (by omega) ?_; intro v8 w8 ho8 hb8 hg8 hat8; have hx8 : w8.heap[b2]? = some (.cells #[.slice A3 xs.length c3, .slice A2 m.L.length c2, .int .i64 m.nx] 54 (0, 0)) := (hg8.block _ (Q.blk_lt HBKD.out) (fun q => Q.types_ne (Q.FR.typed HFRD.out q.symm) ⟨_, HBKD.out⟩ (by decide))).trans HBKD.out; have hz8 : w8.frozen? ⟨b2, 0, none⟩ = false := (by simp [World.frozen?, hx8]); have hc8 : w8.cell? ⟨b2, 0, none⟩ = some (.slice A3 xs.length c3) := (by rw [cell_of_row w8 _ 0 _ _ _ hx8]; rfl); have HO8 := hid ho8; have HB8 := hid hb8; have HG8 := hid hg8; have HX8 := hid hx8; obtain ⟨A8, c8, hv8⟩ := Kd.R_slice HO8.out; rw [List.length_append, List.length_singleton] at hv8; subst hv8; clear ho8 hb8 hg8 hat8 hx8)
      all_goals
        go_wp2_with fail
        go_roundg (m.P.length + 1 - (i + 1))
        case measure => rw [HM.out]; omega
        case rel =>
          have hfs : Fr (fun i => i = b2) w8 (w8.setCell ⟨b2, 0, none⟩ (.slice A8 (xs.length + 1) c8)) := Fr.setCell (S := fun i => i = b2) (p := ⟨b2, 0, none⟩) (Fr.refl _ w8) (.inl rfl) _
          have hf8 : Fr (fun k => (Value.slice A3 xs.length c3).ownBlock = some k) wr.drew w8 := Fr.of_grown HG8.out
          have hbase : ∀ k, (Value.slice A3 xs.length c3).ownBlock = some k → wj.heap.size ≤ k := fun k hk => Kd.R_base HROWD.out k hk
          have hrow8 : eP.kd.R 106 w8 wj.heap.size (fun _ => True) (.slice A8 (xs.length + 1) c8) (xs ++ [x]) := HO8.out
          have hFR8 : Q.FR eP 106 w8 (.slice A8 (xs.length + 1) c8) (xs ++ [x]) := Kd.R_lower hrow8 (Nat.zero_le _)
          have hne8 : ∀ k, (Value.slice A8 (xs.length + 1) c8).ownBlock = some k → k ≠ b2 := fun k hk e => Q.types_ne (Q.FR.typed hFR8 hk) ⟨_, e ▸ HX8.out⟩ (by decide)
          have h02 : b0 ≠ b2 := fun q => Q.types_ne ⟨_, HY0D.out⟩ ⟨_, q ▸ HBKD.out⟩ (by decide)
          have hy0' := hfs.at_ (hf8.at_ HY0D.out (fun q => by have := hbase _ q; have := HB01'.out; omega)) h02
          have hy1' := hfs.at_ (hf8.at_ HY1D.out (fun q => by have := hbase _ q; have := HB12.out; omega)) HNE.out
          have hb0' := HB0.out
          have hbl8 : Below w.heap.size wr.drew w8 := hf8.below HBWD.out.size (fun k hk q => by have := hbase _ q; have := HB01'.out; omega)
          have hbl9 : Below w.heap.size w8 (w8.setCell ⟨b2, 0, none⟩ (.slice A8 (xs.length + 1) c8)) := hfs.below (Nat.le_trans HBWD.out.size hf8.size) (fun k hk q => by have := HGE2.out; omega)
          exact ⟨i + 1, _, by go_num, by omega, rfl, K.setCell_heap (off := 0) HX8.out _, hy0', hy1', by rw [HST.out]; exact row_keep2 hrow8 (fun k hk => hfs.block k (hFR8.lt hk) (hne8 k hk)), HBWD.out.trans (hbl8.trans hbl9), Nat.le_trans hszd (Nat.le_trans hf8.size hfs.size)⟩
    · have hi' : i = m.P.length := by omega
      have ht : m.P.take i = m.P := by rw [hi']; exact List.take_length
      rw [ht] at HROW HFR HBK p0
      have r1 := cell_of_row wr b2 1 _ _ _ HBK.out
      have r2 := cell_of_row wr b2 2 _ _ _ HBK.out
      have g0 := cell_of_row wr b1 0 _ _ _ HY1.out
      have g1 := cell_of_row wr b1 1 _ _ _ HY1.out
      have g2 := cell_of_row wr b1 2 _ _ _ HY1.out
      have y0 : wr.frozen? ⟨b1, 0, none⟩ = false := by simp [World.frozen?, HY1.out]
      have y1 : wr.frozen? ⟨b1, 1, none⟩ = false := by simp [World.frozen?, HY1.out]
      have y2 : wr.frozen? ⟨b1, 2, none⟩ = false := by simp [World.frozen?, HY1.out]
      have HI := hid hi'
      clear ht hi' hbw
      go_wp2_with fail
      have e1 := K.setCell_heap (off := 0) HY1.out (.slice A3 m.P.length c3)
      have e2 := K.setCell_heap (off := 1) e1 (.slice A2 m.L.length c2)
      have e3 : (((wr.setCell ⟨b1, 0, none⟩ (.slice A3 m.P.length c3)).setCell ⟨b1, 1, none⟩ (.slice A2 m.L.length c2)).setCell ⟨b1, 2, none⟩ (.int .i64 m.nx)).heap[b1]? = some (.cells #[.slice A3 m.P.length c3, .slice A2 m.L.length c2, .int .i64 m.nx] 54 (0, 0)) := K.setCell_heap (off := 2) e2 (.int .i64 m.nx)
      have hfr : Fr (fun i => i = b1) wr (((wr.setCell ⟨b1, 0, none⟩ (.slice A3 m.P.length c3)).setCell ⟨b1, 1, none⟩ (.slice A2 m.L.length c2)).setCell ⟨b1, 2, none⟩ (.int .i64 m.nx)) := Fr.setCell (S := fun i => i = b1) (p := ⟨b1, 2, none⟩) (Fr.setCell (S := fun i => i = b1) (p := ⟨b1, 1, none⟩) (Fr.setCell (S := fun i => i = b1) (p := ⟨b1, 0, none⟩) (Fr.refl _ wr) (.inl rfl) _) (.inl rfl) _) (.inl rfl) _
      refine bodyPost_ret (results_cell_row rfl _ _ b1 54 _ (0, 0) _ rfl e3 Tryz.underlying54 rfl (by kernel_rfl)) rfl ?_
      have hbl : Below w.heap.size w (((wr.setCell ⟨b1, 0, none⟩ (.slice A3 m.P.length c3)).setCell ⟨b1, 1, none⟩ (.slice A2 m.L.length c2)).setCell ⟨b1, 2, none⟩ (.int .i64 m.nx)) := HBW.out.trans (hfr.below HBW.out.size (fun k hk q => by have := HGE1.out; omega))
      have hFR2 := HFR.out.move (fun k hk => hfr.block k (HFR.out.lt hk) (fun e => Q.types_ne (Q.FR.typed HFR.out hk) ⟨_, e ▸ HY1.out⟩ (by decide)))
      obtain ⟨A3', c3', ev, hc3, hat3⟩ := hFR2.at_
      cases ev
      exact ⟨_, rfl, ⟨A3, c3, A2, c2, rfl, hat3, (HU.out.below hbl).up hbl.size, hc3, hc2⟩, hbl⟩
end Go.Proofs.YtdejbinmnoabeaaGreat
namespace Go.Proofs.YtdejbinmnoabeaaGreat
open Go.RowKit Go.Mine Go.Proofs.YtdejbinmnoabeaaGreatW.PrintWords
set_option linter.unusedVariables false
set_option linter.unusedSimpArgs false
def DmS (w0 w : World) (F : Nat → Prop) (b : Nat) (LP : List (Int × Int)) (s : RM) : Prop := DR F w b LP s ∧ Below w0.heap.size w0 w
theorem DR.given {F : Nat → Prop} {w : World} {b : Nat} {LP : List (Int × Int)} {s : RM} (h : DR F w b LP s) : w.cell? ⟨b, 5, none⟩ = some (.int .i64 s.q.gv) := by
  obtain ⟨FD, FE, I, pv, qv, tv, J, iv, jv, h⟩ := h
  rw [cell_of_row w b 5 _ _ _ h.qr.blk]; rfl
theorem DmS.setc {w0 w : World} {F : Nat → Prop} {b : Nat} {LP : List (Int × Int)} {s : RM} {p : Addr} {u : Value} (hp : w0.heap.size ≤ p.block) (hF : ∀ i, F i → i < w0.heap.size) (h : DmS w0 w F b LP s) : DmS w0 (w.setCell p u) F b LP s := by
  have hf : Fr (fun i => i = p.block) w (w.setCell p u) := Fr.setCell (S := fun i => i = p.block) (p := p) (Fr.refl _ w) (.inl rfl) u
  exact ⟨h.1.fr hf (fun i hi q => by have := hF i hi; omega), h.2.trans (hf.below h.2.size (fun k hk q => by omega))⟩
theorem DmS.step {w0 w w' : World} {F : Nat → Prop} {b : Nat} {LP : List (Int × Int)} {s : RM} (hb : Below w.heap.size w w') (h : DmS w0 w F b LP s) : DmS w0 w' F b LP s :=
  ⟨h.1.below hb, h.2.trans (hb.mono h.2.size)⟩
theorem DmS.alloc {w0 w : World} {F : Nat → Prop} {b : Nat} {LP : List (Int × Int)} {s : RM} (o : Obj) (h : DmS w0 w F b LP s) : DmS w0 (w.alloc o) F b LP s := h.step ((Below.refl _ _).alloc (Nat.le_refl _) _)
theorem dm2_step {w0 w w' : World} {F : Nat → Prop} {b : Nat} {LP : List (Int × Int)} {s : RM} (hb : Below w.heap.size w w') (h : w.cell? ⟨b, 5, none⟩ = some (.int .i64 s.q.gv) ∧ DmS w0 w F b LP s) : w'.cell? ⟨b, 5, none⟩ = some (.int .i64 s.q.gv) ∧ DmS w0 w' F b LP s :=
  ⟨(h.2.step hb).1.given, h.2.step hb⟩
theorem dm2_alloc {w0 w : World} {F : Nat → Prop} {b : Nat} {LP : List (Int × Int)} {s : RM} (o : Obj) (h : w.cell? ⟨b, 5, none⟩ = some (.int .i64 s.q.gv) ∧ DmS w0 w F b LP s) : (w.alloc o).cell? ⟨b, 5, none⟩ = some (.int .i64 s.q.gv) ∧ DmS w0 (w.alloc o) F b LP s := dm2_step ((Below.refl _ _).alloc (Nat.le_refl _) _) h
theorem dm2_setc {w0 w : World} {F : Nat → Prop} {b : Nat} {LP : List (Int × Int)} {s : RM} {p : Addr} {u : Value} (hp : w0.heap.size ≤ p.block) (hF : ∀ i, F i → i < w0.heap.size) (h : w.cell? ⟨b, 5, none⟩ = some (.int .i64 s.q.gv) ∧ DmS w0 w F b LP s) : (w.setCell p u).cell? ⟨b, 5, none⟩ = some (.int .i64 s.q.gv) ∧ DmS w0 (w.setCell p u) F b LP s :=
  ⟨(h.2.setc hp hF).1.given, h.2.setc hp hF⟩
set_option maxRecDepth 100000 in
set_option maxHeartbeats 4000000 in
theorem dimage_any {F : Nat → Prop} {w : World} {b : Nat} {LP : List (Int × Int)} {s : RM} (h : DR F w b LP s) (hag : Agree LP s.k) (hok : s.Ok) :
    Calls Tryz.prog 15 #[.pointer (some ⟨b, 0, none⟩)] w fun e w' => ∃ v, e = .returned v ∧ ImgNew w.heap.size w' v (imgR s) ∧ Below w.heap.size w w' := by
  have hqok := hok.q
  have hg0 := hqok.g0
  have hg1 := hqok.g1
  have hsz := hqok.sz
  obtain ⟨L, hL⟩ : ∃ L, s.q.its.map (·.val) = L := ⟨_, rfl⟩
  have hN0 : L.length ≤ 16 := by rw [← hL, List.length_map]; omega
  have K1 : Hid (∀ w0 w', DmS w0 w' F b LP s → Calls Tryz.prog 45 #[.pointer (some ⟨b, 3, none⟩)] w' fun e w'' => ∃ A c, e = .returned (.slice A L.length c) ∧ Q.FR Q.eU 39 w'' (.slice A L.length c) L ∧ (∀ k, (Value.slice A L.length c).ownBlock = some k → w'.heap.size ≤ k) ∧ Below w'.heap.size w' w'') := hid (fun w0 w' h => by
    obtain ⟨FE, Zd, _, hq, _⟩ := h.1.qu
    refine (E.dvalues_any hq (by omega)).mono ?_
    rintro e w'' ⟨v, rfl, hr, ho, hb⟩
    rw [hL] at hr
    obtain ⟨A, c, rfl⟩ := Kd.R_slice hr
    exact ⟨A, c, rfl, hr, ho, hb⟩)
  have hw1 : IntKind.i64.wrap (s.q.gv + 1) = s.q.gv + 1 := Q.wr64 (by omega) (by omega)
  have HL := hid hL
  have HAG := hid hag
  have HLP := hid (show LP.length ≤ 1000000 by have := hag.len; omega)
  clear hL hqok hg0 hg1 hsz hag hok
  have hba : Below w.heap.size w (w.alloc (.cells #[.slice none 0 0, .slice none 0 0, .int .i64 0] 54)) := (Below.refl _ _).alloc (Nat.le_refl _) _
  have hS : DmS (w.alloc (.cells #[.slice none 0 0, .slice none 0 0, .int .i64 0] 54)) (w.alloc (.cells #[.slice none 0 0, .slice none 0 0, .int .i64 0] 54)) F b LP s := ⟨h.below hba, Below.refl _ _⟩
  have hbx : (w.alloc (.cells #[.slice none 0 0, .slice none 0 0, .int .i64 0] 54)).heap[w.heap.size]? = some (.cells #[.slice none 0 0, .slice none 0 0, .int .i64 0] 54 (0, 0)) := (MapKept.heap_alloc w _).1
  have HBX := hid hbx
  have HBXL : Hid (w.heap.size < (w.alloc (.cells #[.slice none 0 0, .slice none 0 0, .int .i64 0] 54)).heap.size) := hid (by simp)
  have HFW : Hid (∀ i, F i → i < (w.alloc (.cells #[.slice none 0 0, .slice none 0 0, .int .i64 0] 54)).heap.size) := hid (fun i hi => Nat.lt_trans (h.fb i hi) HBXL.out)
  have HBA := hid hba
  clear hbx h hba
  go_enter Tryz.func15, Tryz.ntmps15
  go_wp2_with fail
  generalize (w.alloc (.cells #[.slice none 0 0, .slice none 0 0, .int .i64 0] 54)) = wa at *
  have HLE : Hid (wa.heap.size ≤ wa.heap.size) := hid (Nat.le_refl _)
  have hS2 : wa.cell? ⟨b, 5, none⟩ = some (.int .i64 s.q.gv) ∧ DmS wa wa F b LP s := ⟨hS.1.given, hS⟩
  clear hS
  go_region_held3 (fun w' => w'.cell? ⟨b, 5, none⟩ = some (.int .i64 s.q.gv) ∧ DmS wa w' F b LP s) (first | exact dm2_step (Q.bd1 _) (by assumption) | exact dm2_step (Q.bdN _ _) (by assumption) | exact dm2_step (by assumption) (by assumption) | exact dm2_alloc _ (by assumption) | exact dm2_setc HLE.out HFW.out (dm2_setc HLE.out HFW.out (dm2_setc HLE.out HFW.out (by assumption))) | assumption) (first
    | (go_at_call 45; refine (K1.out _ _ (by assumption : _ ∧ DmS wa _ F b LP s).2).mono ?_; rintro e w5 ⟨A5, c5, rfl, u5, ho5, f5⟩; have S5 : Hid (DmS wa w5 F b LP s) := hid (DmS.step f5 (by assumption : _ ∧ DmS wa _ F b LP s).2); have S6 := dm2_step f5 (by assumption : _ ∧ DmS wa _ F b LP s); (try (have z := (f5.block wa.heap.size (by simp)).trans (MapKept.heap_alloc wa.drew (.cells #[.slice none 0 0, .slice none 0 0, .int .i64 0] 54)).1; have z0 := cell_of_row w5 _ 0 _ _ _ z; have z1 := cell_of_row w5 _ 1 _ _ _ z; have z2 := cell_of_row w5 _ 2 _ _ _ z; have y0 : w5.frozen? ⟨wa.heap.size, 0, none⟩ = false := (by simp [World.frozen?, z]); have y1 : w5.frozen? ⟨wa.heap.size, 1, none⟩ = false := (by simp [World.frozen?, z]); have y2 : w5.frozen? ⟨wa.heap.size, 2, none⟩ = false := (by simp [World.frozen?, z])))))
  all_goals
    first
      | (change Exit.then _ _ Exit.normal _ (w5.alloc (.cells #[.slice none 0 0, .slice A5 L.length c5, .int .i64 (s.q.gv + 1)] 54))
         have hblk : (w5.alloc (.cells #[.slice none 0 0, .slice A5 L.length c5, .int .i64 (s.q.gv + 1)] 54)).heap[w5.heap.size]? = some (.cells #[.slice none 0 0, .slice A5 L.length c5, .int .i64 (s.q.gv + 1)] 54 (0, 0)) := (MapKept.heap_alloc w5 _).1
         have hbe : Below w5.heap.size w5 (w5.alloc (.cells #[.slice none 0 0, .slice A5 L.length c5, .int .i64 (s.q.gv + 1)] 54)) := (Below.refl _ _).alloc (Nat.le_refl _) _
         have hu5 : Q.FR Q.eU 39 (w5.alloc (.cells #[.slice none 0 0, .slice A5 L.length c5, .int .i64 (s.q.gv + 1)] 54)) (.slice A5 L.length c5) L := u5.move (fun k hk => hbe.block k (u5.lt hk))
         have hS5 : DmS wa (w5.alloc (.cells #[.slice none 0 0, .slice A5 L.length c5, .int .i64 (s.q.gv + 1)] 54)) F b LP s := DmS.alloc _ S5.out
         have hbx : wa.heap.size ≤ w5.heap.size := S5.out.2.size
         have hlow5 : ∀ k, (Value.slice A5 L.length c5).ownBlock = some k → wa.heap.size ≤ k := fun k hk => by have h := ho5 k hk; first | exact h | (simp at h; omega)
         clear hbe u5 ho5 f5 S5
         (try clear z0 z1 z2 y0 y1 y2)
         (try clear z)
         generalize (w5.alloc (.cells #[.slice none 0 0, .slice A5 L.length c5, .int .i64 (s.q.gv + 1)] 54)) = wz at *
         generalize w5.heap.size = bx at *)
      | (have e1 := K.setCell_heap (off := 0) z (.slice none 0 0)
         have e2 := K.setCell_heap (off := 1) e1 (.slice A5 L.length c5)
         have hblk : (((w5.setCell ⟨wa.heap.size, 0, none⟩ (.slice none 0 0)).setCell ⟨wa.heap.size, 1, none⟩ (.slice A5 L.length c5)).setCell ⟨wa.heap.size, 2, none⟩ (.int .i64 (s.q.gv + 1))).heap[wa.heap.size]? = some (.cells #[.slice none 0 0, .slice A5 L.length c5, .int .i64 (s.q.gv + 1)] 54 (0, 0)) := K.setCell_heap (off := 2) e2 (.int .i64 (s.q.gv + 1))
         have hfr : Fr (fun i => i = wa.heap.size) w5 (((w5.setCell ⟨wa.heap.size, 0, none⟩ (.slice none 0 0)).setCell ⟨wa.heap.size, 1, none⟩ (.slice A5 L.length c5)).setCell ⟨wa.heap.size, 2, none⟩ (.int .i64 (s.q.gv + 1))) := Fr.setCell (S := fun i => i = wa.heap.size) (p := ⟨wa.heap.size, 2, none⟩) (Fr.setCell (S := fun i => i = wa.heap.size) (p := ⟨wa.heap.size, 1, none⟩) (Fr.setCell (S := fun i => i = wa.heap.size) (p := ⟨wa.heap.size, 0, none⟩) (Fr.refl _ w5) (.inl rfl) _) (.inl rfl) _) (.inl rfl) _
         have hu5 : Q.FR Q.eU 39 (((w5.setCell ⟨wa.heap.size, 0, none⟩ (.slice none 0 0)).setCell ⟨wa.heap.size, 1, none⟩ (.slice A5 L.length c5)).setCell ⟨wa.heap.size, 2, none⟩ (.int .i64 (s.q.gv + 1))) (.slice A5 L.length c5) L := u5.move (fun k hk => hfr.block k (u5.lt hk) (fun q => by have := ho5 k hk; simp at this; omega))
         have hS5 : DmS wa (((w5.setCell ⟨wa.heap.size, 0, none⟩ (.slice none 0 0)).setCell ⟨wa.heap.size, 1, none⟩ (.slice A5 L.length c5)).setCell ⟨wa.heap.size, 2, none⟩ (.int .i64 (s.q.gv + 1))) F b LP s := DmS.setc HLE.out HFW.out (DmS.setc HLE.out HFW.out (DmS.setc HLE.out HFW.out S5.out))
         have hbx : wa.heap.size ≤ wa.heap.size := Nat.le_refl _
         have hlow5 : ∀ k, (Value.slice A5 L.length c5).ownBlock = some k → wa.heap.size ≤ k := fun k hk => by have h := ho5 k hk; first | exact h | (simp at h; omega)
         clear e1 e2 hfr u5 ho5 f5 S5 z0 z1 z2 y0 y1 y2 z
         change Exit.then _ _ Exit.normal _ (((w5.setCell ⟨wa.heap.size, 0, none⟩ (.slice none 0 0)).setCell ⟨wa.heap.size, 1, none⟩ (.slice A5 L.length c5)).setCell ⟨wa.heap.size, 2, none⟩ (.int .i64 (s.q.gv + 1)))
         generalize (((w5.setCell ⟨wa.heap.size, 0, none⟩ (.slice none 0 0)).setCell ⟨wa.heap.size, 1, none⟩ (.slice A5 L.length c5)).setCell ⟨wa.heap.size, 2, none⟩ (.int .i64 (s.q.gv + 1))) = wz at *
         obtain ⟨bx, hbe⟩ : ∃ bx, bx = wa.heap.size := ⟨_, rfl⟩
         rw [← hbe] at hblk ⊢
         have hbx : wa.heap.size ≤ bx := Nat.le_of_eq hbe.symm
         clear hbe)
    have hbxn : w.heap.size ≠ bx := by have := HBXL.out; omega
    have hres : wz.heap[w.heap.size]? = some (.cells #[.slice none 0 0, .slice none 0 0, .int .i64 0] 54 (0, 0)) := (hS5.2.block _ HBXL.out).trans HBX.out
    have HBN := hid hbxn
    have HBXW := hid hbx
    have HLOW := hid hlow5
    have HBK := hid hblk
    have HU := hid hu5
    have HS := hid hS5
    clear hbxn hres hblk hu5 hS5 hbx hlow5
    go_wp2_with fail
    go_loopg [4] 17 (fun m v wr => ∃ (i : Nat) (v1 : Value), v = .int .i64 i ∧ i ≤ 16 ∧ m = 17 - i ∧ wr.heap[bx]? = some (.cells #[v1, .slice A5 L.length c5, .int .i64 (s.q.gv + 1)] 54 (0, 0)) ∧ eP.kd.R 106 wr wa.heap.size (fun _ => True) v1 (pairsK s.k i) ∧ Q.FR Q.eU 39 wr (.slice A5 L.length c5) L ∧ DmS wa wr F b LP s)
    case atStart => exact ⟨0, _, rfl, Nat.zero_le _, rfl, HBK.out, Kd.R_nil _ _ _ _ _, HU.out, HS.out⟩
    case round =>
      obtain ⟨i, v1, rfl, hi, hm, hblk, hrow, hu, hS⟩ := hrel
      have HM := hid hm
      clear hm HBK HU HS
      by_cases h1 : i < 16
      · have h1' : (i : Int) < 16 := by omega
        obtain ⟨FD, Ze, I, pv, qv, tv, hsub, hd, hw, hst⟩ := hS.1.st
        have hval : dval LP (i : Int) = (s.k.vs.getD i 0, s.k.th.getD i false) := HAG.out.eq i h1
        have HV := hid (D.dvalue_any hd HLP.out (i : Int))
        rw [hval] at HV
        have HBK := hid hblk
        have HROW := hid hrow
        have HU := hid hu
        have HS := hid hS
        clear hsub hd hw hst hval hblk hrow hu hS
        cases ht : s.k.th.getD i false
        · rw [ht] at HV
          have HT := hid (pairsK_false ht)
          clear ht
          go_wp2_with fail
          refine HV.out.mono ?_
          rintro e w6 ⟨rfl, rfl⟩
          go_wp2_with fail
          go_roundg (17 - (i + 1))
          case measure => rw [HM.out]; omega
          case rel => exact ⟨i + 1, v1, by go_num, by omega, rfl, HBK.out, by rw [HT.out]; exact HROW.out, HU.out, HS.out⟩
        · rw [ht] at HV
          have HT := hid (pairsK_true ht)
          generalize s.k.vs.getD i 0 = vv at *
          have hlen := pairsK_len s.k i
          clear ht
          go_wp2_with fail
          refine HV.out.mono ?_
          rintro e w6 ⟨rfl, hw6⟩
          have hblk6 : w6.heap[bx]? = some (.cells #[v1, .slice A5 L.length c5, .int .i64 (s.q.gv + 1)] 54 (0, 0)) := by rw [← hw6]; exact HBK.out
          have hrow6 : eP.kd.R 106 w6 wa.heap.size (fun _ => True) v1 (pairsK s.k i) := by rw [← hw6]; exact HROW.out
          have hu6 : Q.FR Q.eU 39 w6 (.slice A5 L.length c5) L := by rw [← hw6]; exact HU.out
          have hS6 : DmS wa w6 F b LP s := by rw [← hw6]; exact HS.out
          obtain ⟨A1, c1, hv1⟩ := Kd.R_slice hrow6
          subst hv1
          have cc0 : w6.cell? ⟨bx, 0, none⟩ = some (.slice A1 (pairsK s.k i).length c1) := by rw [cell_of_row w6 bx 0 _ _ _ hblk6]; rfl
          have HBK6 := hid hblk6
          have HROW6 := hid hrow6
          have HU6 := hid hu6
          have HS6 := hid hS6
          have hsz6 := hS6.2.size
          have HBW6 := hid hS6.2
          have HFR6 : Hid (Q.FR eP 106 w6 (.slice A1 (pairsK s.k i).length c1) (pairsK s.k i)) := hid (Kd.R_lower hrow6 (Nat.zero_le _))
          generalize pairsK s.k i = xs at *
          clear hw6 hblk6 hrow6 hu6 hS6 HBK HROW HU HS HV
          go_wp2_with (at_builtin; go_loud (refine Kd.R_append eP.kd (w0 := wa) wa.heap.size rfl (.tmp 32) (.tmp 36) 26 106 _ 16 rfl Tryz.underlying26 info106 (by rfl) (by decide) (by decide) (.slice A1 xs.length c1) xs ((i : Int), vv) [.int .i64 i, .int .u64 vv] (fun _ => True) (fun _ => False) rfl (by first | rfl | (simp; rfl)) rfl (fun _ q => q.elim) (fun _ _ => trivial) HROW6.out (HBW6.out) hsz6 (by omega) ?_); intro v8 w8 ho8 hb8 hg8 hat8; have hx8 : w8.heap[bx]? = some (.cells #[.slice A1 xs.length c1, .slice A5 L.length c5, .int .i64 (s.q.gv + 1)] 54 (0, 0)) := (hg8.block _ (Q.blk_lt HBK6.out) (fun q => Q.types_ne (Q.FR.typed HFR6.out q.symm) ⟨_, HBK6.out⟩ (by decide))).trans HBK6.out; have hz8 : w8.frozen? ⟨bx, 0, none⟩ = false := (by simp [World.frozen?, hx8]); have hc8 : w8.cell? ⟨bx, 0, none⟩ = some (.slice A1 xs.length c1) := (by rw [cell_of_row w8 _ 0 _ _ _ hx8]; rfl); have HO8 := hid ho8; have HB8 := hid hb8; have HG8 := hid hg8; have HX8 := hid hx8; obtain ⟨A8, c8, hv8⟩ := Kd.R_slice HO8.out; rw [List.length_append, List.length_singleton] at hv8; subst hv8; clear ho8 hb8 hg8 hat8 hx8)
          go_roundg (17 - (i + 1))
          case measure => rw [HM.out]; omega
          case rel =>
            have hfs : Fr (fun i => i = bx) w8 (w8.setCell ⟨bx, 0, none⟩ (.slice A8 (xs.length + 1) c8)) := Fr.setCell (S := fun i => i = bx) (p := ⟨bx, 0, none⟩) (Fr.refl _ w8) (.inl rfl) _
            have hf8 : Fr (fun k => (Value.slice A1 xs.length c1).ownBlock = some k) w6 w8 := Fr.of_grown HG8.out
            have hrow8 : eP.kd.R 106 w8 wa.heap.size (fun _ => True) (.slice A8 (xs.length + 1) c8) (xs ++ [((i : Int), vv)]) := HO8.out
            have hFR8 : Q.FR eP 106 w8 (.slice A8 (xs.length + 1) c8) (xs ++ [((i : Int), vv)]) := Kd.R_lower hrow8 (Nat.zero_le _)
            have hne8 : ∀ k, (Value.slice A8 (xs.length + 1) c8).ownBlock = some k → k ≠ bx := fun k hk e => Q.types_ne (Q.FR.typed hFR8 hk) ⟨_, e ▸ HX8.out⟩ (by decide)
            have hu8 : Q.FR Q.eU 39 w8 (.slice A5 L.length c5) L := HU6.out.move (fun k hk => hf8.block k (HU6.out.lt hk) (fun q => Q.types_ne (Q.FR.typed HU6.out hk) (Q.FR.typed HFR6.out q) (by decide)))
            have hS8 : DmS wa w8 F b LP s := ⟨HS6.out.1.fr hf8 (fun i hi q => by have := Kd.R_base HROW6.out i q; have := HFW.out i hi; omega), HB8.out⟩
            refine ⟨i + 1, _, by go_num, by omega, rfl, K.setCell_heap (off := 0) HX8.out _, by rw [HT.out]; exact row_keep2 hrow8 (fun k hk => hfs.block k (hFR8.lt hk) (hne8 k hk)), hu8.move (fun k hk => hfs.block k (hu8.lt hk) (fun e => Q.types_ne (Q.FR.typed hu8 hk) ⟨_, e ▸ HX8.out⟩ (by decide))), DmS.setc HBXW.out HFW.out hS8⟩
      · have h1' : ¬ (i : Int) < 16 := by omega
        have hi16 : i = 16 := by omega
        subst hi16
        have hres : wr.heap[w.heap.size]? = some (.cells #[.slice none 0 0, .slice none 0 0, .int .i64 0] 54 (0, 0)) := (hS.2.block _ HBXL.out).trans HBX.out
        obtain ⟨A1, c1, hv1⟩ := Kd.R_slice hrow
        subst hv1
        have q0 := cell_of_row wr bx 0 _ _ _ hblk
        have q1 := cell_of_row wr bx 1 _ _ _ hblk
        have q2 := cell_of_row wr bx 2 _ _ _ hblk
        have g0 := cell_of_row wr w.heap.size 0 _ _ _ hres
        have g1 := cell_of_row wr w.heap.size 1 _ _ _ hres
        have g2 := cell_of_row wr w.heap.size 2 _ _ _ hres
        have y0 : wr.frozen? ⟨w.heap.size, 0, none⟩ = false := by simp [World.frozen?, hres]
        have y1 : wr.frozen? ⟨w.heap.size, 1, none⟩ = false := by simp [World.frozen?, hres]
        have y2 : wr.frozen? ⟨w.heap.size, 2, none⟩ = false := by simp [World.frozen?, hres]
        have HRES := hid hres
        have HROW := hid hrow
        have HU := hid hu
        have HS := hid hS
        clear hres hrow hu hS hblk
        go_wp2_with fail
        have e1 := K.setCell_heap (off := 0) HRES.out (.slice A1 (pairsK s.k 16).length c1)
        have e2 := K.setCell_heap (off := 1) e1 (.slice A5 L.length c5)
        have e3 : (((wr.setCell ⟨w.heap.size, 0, none⟩ (.slice A1 (pairsK s.k 16).length c1)).setCell ⟨w.heap.size, 1, none⟩ (.slice A5 L.length c5)).setCell ⟨w.heap.size, 2, none⟩ (.int .i64 (s.q.gv + 1))).heap[w.heap.size]? = some (.cells #[.slice A1 (pairsK s.k 16).length c1, .slice A5 L.length c5, .int .i64 (s.q.gv + 1)] 54 (0, 0)) := K.setCell_heap (off := 2) e2 (.int .i64 (s.q.gv + 1))
        have hfr : Fr (fun i => i = w.heap.size) wr (((wr.setCell ⟨w.heap.size, 0, none⟩ (.slice A1 (pairsK s.k 16).length c1)).setCell ⟨w.heap.size, 1, none⟩ (.slice A5 L.length c5)).setCell ⟨w.heap.size, 2, none⟩ (.int .i64 (s.q.gv + 1))) := Fr.setCell (S := fun i => i = w.heap.size) (p := ⟨w.heap.size, 2, none⟩) (Fr.setCell (S := fun i => i = w.heap.size) (p := ⟨w.heap.size, 1, none⟩) (Fr.setCell (S := fun i => i = w.heap.size) (p := ⟨w.heap.size, 0, none⟩) (Fr.refl _ wr) (.inl rfl) _) (.inl rfl) _) (.inl rfl) _
        refine bodyPost_ret (results_cell_row rfl _ _ w.heap.size 54 _ (0, 0) _ rfl e3 Tryz.underlying54 rfl (by kernel_rfl)) rfl ?_
        have hFR : Q.FR eP 106 wr (.slice A1 (pairsK s.k 16).length c1) (pairsK s.k 16) := Kd.R_lower HROW.out (Nat.zero_le _)
        have hFR2 := hFR.move (fun k hk => hfr.block k (hFR.lt hk) (fun e => Q.types_ne (Q.FR.typed hFR hk) ⟨_, e ▸ HRES.out⟩ (by decide)))
        have hU2 := HU.out.move (fun k hk => hfr.block k (HU.out.lt hk) (fun e => Q.types_ne (Q.FR.typed HU.out hk) ⟨_, e ▸ HRES.out⟩ (by decide)))
        obtain ⟨A1', c1', ev, hc1, hat1⟩ := hFR2.at_
        cases ev
        obtain ⟨A5', c5', ev, hc5, hat5⟩ := hU2.at_
        cases ev
        refine ⟨_, rfl, ⟨A1, c1, A5, c5, ?_, hat1, ?_, hc1, ?_, fun k off e => Nat.le_trans (Nat.le_of_lt HBXL.out) (Kd.R_base HROW.out k (own_addr e)), fun k off e => Nat.le_trans (Nat.le_of_lt HBXL.out) (HLOW.out k (own_addr e))⟩, ?_⟩
        · show _ = Value.agg #[_, .slice A5 (s.q.its.map (·.val)).length c5, _]
          rw [HL.out]; rfl
        · show Q.RowAt _ 1 _ _ A5 (s.q.its.map (·.val))
          rw [HL.out]; exact hat5
        · show (s.q.its.map (·.val)).length ≤ c5
          rw [HL.out]; exact hc5
        · have hb1 := HBA.out.trans (HS.out.2.mono HBA.out.size)
          exact hb1.trans (hfr.below hb1.size (fun k hk q => by omega))
end Go.Proofs.YtdejbinmnoabeaaGreat
namespace Go.Proofs.YtdejbinmnoabeaaGreat
open Go.RowKit Go.Mine Go.Proofs.YtdejbinmnoabeaaGreatW.PrintWords
set_option linter.unusedVariables false
set_option linter.unusedSimpArgs false
theorem read_one (A : Option Addr) (c : Nat) (w : World) : Calls Tryz.prog 21 #[.slice A 1 c] w fun e w' => e = .returned (.tuple #[.slice none 0 0, .int .i64 11]) ∧ w = w' := by
  go_enter Tryz.func21, Tryz.ntmps21
  go_wp2_with fail
  go_ret2
  exact ⟨rfl, rfl⟩
set_option maxRecDepth 100000 in
set_option maxHeartbeats 4000000 in
theorem alive_any (w : World) : Calls Tryz.prog 6 #[] w fun e w' => e = .returned (.bool true) ∧ Below w.heap.size w w' := by
  obtain ⟨s1, hs1⟩ : ∃ s1, s1 = (RM.new.change 1 ⟨1, 3, 9⟩).2 := ⟨_, rfl⟩
  obtain ⟨s2, hs2⟩ : ∃ s2, s2 = (s1.push 1 7).2 := ⟨_, rfl⟩
  obtain ⟨s3, hs3⟩ : ∃ s3, s3 = (s2.prepare 1).2 := ⟨_, rfl⟩
  have e2 : (s2.prepare 1).1 = ([⟨1, 3, 9⟩, ⟨3, 0, 7⟩], 0) := by rw [hs2, hs1]; kernel_rfl
  have e3 : (s3.push 1 8).1 = 7 := by rw [hs3, hs2, hs1]; kernel_rfl
  have h0 := new_rat w
  have C1 := hid (put_any h0 1 3 9)
  have hb0 : Below w.heap.size w (w.alloc (.cells nilRes 82)) := (Below.refl _ _).alloc (Nat.le_refl _) _
  rw [← hs1] at C1
  have HB0 := hid hb0
  have HS2 := hid hs2
  have HS3 := hid hs3
  have E2 := hid e2
  have E3 := hid e3
  clear h0 hb0 hs1 hs2 hs3 e2 e3
  go_enter Tryz.func6, Tryz.ntmps6
  go_wp2_with fail
  refine (new_any w).mono ?_
  rintro e w1 ⟨rfl, rfl⟩
  go_wp2_with fail
  refine C1.out.mono ?_
  rintro e w2 ⟨rfl, ⟨F2, h2, g2⟩, f2⟩
  have C2 := hid (push_any h2 1 7)
  rw [← HS2.out] at C2
  have hg2 : ∀ i, F2 i → w.heap.size ≤ i := fun i hi => (g2 i hi).elim (fun q => Nat.le_of_eq q.symm) (fun q => Nat.le_trans HB0.out.size q)
  have hb2 : Below w.heap.size w w2 := HB0.out.trans (f2.below HB0.out.size (fun k hk q => by omega))
  have HG2 := hid hg2
  have HB2 := hid hb2
  clear C1 h2 g2 f2 hg2 hb2 HB0
  go_wp2_with fail
  refine C2.out.mono ?_
  rintro e w3 ⟨rfl, ⟨F3, h3, g3⟩, f3⟩
  have C3 := hid (prepare_any h3 1)
  have hg3 : ∀ i, F3 i → w.heap.size ≤ i := fun i hi => (g3 i hi).elim (HG2.out i) (fun q => Nat.le_trans HB2.out.size q)
  have hb3 : Below w.heap.size w w3 := HB2.out.trans (f3.below HB2.out.size (fun k hk q => by have := HG2.out k q; omega))
  have HG3 := hid hg3
  have HB3 := hid hb3
  clear C2 h3 g3 f3 hg3 hb3 HG2 HB2
  go_wp2_with fail
  refine C3.out.mono ?_
  rintro e w4 ⟨A4, c4, rfl, ⟨F4, h4, g4, o4⟩, u4, hc4, f4⟩
  have hg4 : ∀ i, F4 i → w.heap.size ≤ i := fun i hi => (g4 i hi).elim (HG3.out i) (fun q => Nat.le_trans HB3.out.size q)
  have hb4 : Below w.heap.size w w4 := HB3.out.trans (f4.below HB3.out.size (fun k hk q => by have := HG3.out k q; omega))
  rw [← HS3.out] at h4
  have C4 := hid (push_any h4 1 8)
  rw [E2.out] at u4 hc4 ⊢
  rw [E3.out] at C4
  have HG4 := hid hg4
  have HB4 := hid hb4
  have HU4 := hid u4
  have HO4 := hid o4
  clear C3 h4 g4 f4 hg4 hb4 HG3 HB3 u4 o4
  go_wp2_with fail
  refine C4.out.mono ?_
  rintro e w5 ⟨rfl, ⟨F5, h5, g5⟩, f5⟩
  have hb5 : Below w.heap.size w w5 := HB4.out.trans (f5.below HB4.out.size (fun k hk q => by have := HG4.out k q; omega))
  have hu5 : ChAt w5 w5.heap.size A4 [⟨1, 3, 9⟩, ⟨3, 0, 7⟩] := row_fr HU4.out f5 (fun k off e => (HO4.out k off e).2)
  have hb6 : Below w5.heap.size w5 (w5.alloc (.cells #[.int .u8 1] 5)) := (Below.refl _ _).alloc (Nat.le_refl _) _
  have hu6 := (Q.RowAt.below hu5 hb6)
  have HB6 := hid (hb5.trans (hb6.mono hb5.size))
  obtain ⟨b4, off4, rfl, hlt4, hcc⟩ := hu6 0 _ rfl
  obtain ⟨b4', off4', e4, hlt4', hcc2⟩ := hu6 1 _ rfl
  cases e4
  have HK := hid hcc
  have HK2 := hid hcc2
  clear C4 h5 g5 f5 hb5 hu5 hb6 hu6 HU4 HO4 HB4 HG4 hcc hcc2 hlt4'
  go_wp2_with fail
  generalize (w5.alloc (.cells #[.int .u8 1] 5)) = w6 at *
  refine (read_one _ _ _).mono ?_
  rintro e w7 ⟨rfl, rfl⟩
  have k0 : w6.cell? ⟨b4, off4, none⟩ = some (.int .i64 1) := HK.out 0 _ rfl
  have k1 : w6.cell? ⟨b4, off4 + 1, none⟩ = some (.int .i64 3) := HK.out 1 _ rfl
  have k2 : w6.cell? ⟨b4, off4 + 2, none⟩ = some (.int .u64 9) := HK.out 2 _ rfl
  have k3 : w6.cell? ⟨b4, off4 + 3, none⟩ = some (.int .i64 3) := HK2.out 0 _ rfl
  have k4 : w6.cell? ⟨b4, off4 + 4, none⟩ = some (.int .i64 0) := HK2.out 1 _ rfl
  have k5 : w6.cell? ⟨b4, off4 + 5, none⟩ = some (.int .u64 7) := HK2.out 2 _ rfl
  go_wp2_with fail
  go_ret
  exact ⟨rfl, HB6.out⟩
end Go.Proofs.YtdejbinmnoabeaaGreat
namespace Go.Proofs.YtdejbinmnoabeaaGreat
open Go.RowKit Go.Mine Go.Proofs.YtdejbinmnoabeaaGreatW.PrintWords
set_option linter.unusedVariables false
set_option linter.unusedSimpArgs false
set_option maxRecDepth 100000 in
set_option maxHeartbeats 4000000 in
theorem same_told {w : World} {A A' : Option Addr} {l : List Ch} {c c' : Nat} (x : Int) (t : Bool) (e0 : Int) (h : ChAt w w.heap.size A l) (h' : ChAt w w.heap.size A' l) (hn : l.length ≤ 1000) :
    Calls Tryz.prog 7 #[.agg #[.int .u64 x, .bool t, .slice A l.length c, .int .i64 e0], .agg #[.int .u64 x, .bool t, .slice A' l.length c', .int .i64 e0]] w fun e w' => e = .returned (.bool true) ∧ Below w.heap.size w w' := by
  obtain ⟨wi, hwi⟩ : ∃ wi, wi = (w.alloc (.cells #[.int .u64 x, .bool t, .slice A l.length c, .int .i64 e0] 47)).alloc (.cells #[.int .u64 x, .bool t, .slice A' l.length c', .int .i64 e0] 47) := ⟨_, rfl⟩
  have hb1 : Below w.heap.size w (w.alloc (.cells #[.int .u64 x, .bool t, .slice A l.length c, .int .i64 e0] 47)) := (Below.refl _ _).alloc (Nat.le_refl _) _
  have hb2 : Below w.heap.size w wi := by rw [hwi]; exact hb1.alloc hb1.size _
  have HC := hid (Q.samech_any A A' l c c' w.heap.size wi (Q.RowAt.below h hb2) (Q.RowAt.below h' hb2) (by omega))
  have sa : (w.alloc (.cells #[.int .u64 x, .bool t, .slice A l.length c, .int .i64 e0] 47)).heap.size = w.heap.size + 1 := by simp
  have hx0 : wi.heap[w.heap.size]? = some (.cells #[.int .u64 x, .bool t, .slice A l.length c, .int .i64 e0] 47 (0, 0)) := by
    rw [hwi]
    exact (((Below.refl _ _).alloc (Nat.le_refl _) _ : Below (w.alloc (.cells #[.int .u64 x, .bool t, .slice A l.length c, .int .i64 e0] 47)).heap.size _ _).block _ (by simp)).trans (MapKept.heap_alloc w _).1
  have hx1 : wi.heap[w.heap.size + 1]? = some (.cells #[.int .u64 x, .bool t, .slice A' l.length c', .int .i64 e0] 47 (0, 0)) := by
    rw [hwi, ← sa]
    exact (MapKept.heap_alloc _ _).1
  have HB2 := hid hb2
  have HX0 := hid hx0
  have HX1 := hid hx1
  have HWI := hid hwi
  have dx : (x == x) = true := by simp
  have de : (e0 == e0) = true := by simp
  have dt : (t == t) = true := by simp
  clear hb1 hb2 sa hx0 hx1 hwi h h'
  go_enter Tryz.func7, Tryz.ntmps7
  go_wp2_with fail
  rw [← HWI.out]
  refine HC.out.mono ?_
  rintro e w2 ⟨rfl, nq, rfl⟩
  have q3 : (wi.drewN nq).cell? ⟨w.heap.size, 3, none⟩ = some (.int .i64 e0) := by
    have := cell_of_row wi _ 3 _ _ _ HX0.out; exact this
  have p3 : (wi.drewN nq).cell? ⟨w.heap.size + 1, 3, none⟩ = some (.int .i64 e0) := by
    have := cell_of_row wi _ 3 _ _ _ HX1.out; exact this
  have HBZ := hid (HB2.out.trans ((Q.bdN wi nq).mono HB2.out.size))
  clear HX0 HX1 HWI HC HB2
  generalize wi.drewN nq = wz at *
  go_wp2_with fail
  go_ret
  exact ⟨rfl, HBZ.out⟩
end Go.Proofs.YtdejbinmnoabeaaGreat
namespace Go.Proofs.YtdejbinmnoabeaaGreat
open Go.RowKit Go.Mine Go.Proofs.YtdejbinmnoabeaaGreatW.PrintWords
set_option linter.unusedVariables false
set_option linter.unusedSimpArgs false
set_option maxRecDepth 100000 in
set_option maxHeartbeats 4000000 in
theorem sameimg_any {w : World} {v v' : Value} {m : Img} (h : ImgAt w w.heap.size v m) (h' : ImgAt w w.heap.size v' m) (hn : m.P.length ≤ 100) (hn2 : m.L.length ≤ 100) :
    Calls Tryz.prog 12 #[v, v'] w fun e w' => e = .returned (.bool true) ∧ Below w.heap.size w w' := by
  obtain ⟨A1, c1, A2, c2, rfl, hp, hu, hc1, hc2⟩ := h
  obtain ⟨A3, c3, A4, c4, rfl, hp', hu', hc3, hc4⟩ := h'
  obtain ⟨wi, hwi⟩ : ∃ wi, wi = (w.alloc (.cells #[.slice A1 m.P.length c1, .slice A2 m.L.length c2, .int .i64 m.nx] 54)).alloc (.cells #[.slice A3 m.P.length c3, .slice A4 m.L.length c4, .int .i64 m.nx] 54) := ⟨_, rfl⟩
  have hb1 : Below w.heap.size w (w.alloc (.cells #[.slice A1 m.P.length c1, .slice A2 m.L.length c2, .int .i64 m.nx] 54)) := (Below.refl _ _).alloc (Nat.le_refl _) _
  have hb2 : Below w.heap.size w wi := by rw [hwi]; exact hb1.alloc hb1.size _
  have hx0 : wi.heap[w.heap.size]? = some (.cells #[.slice A1 m.P.length c1, .slice A2 m.L.length c2, .int .i64 m.nx] 54 (0, 0)) := by
    rw [hwi]; exact (((Below.refl _ _).alloc (Nat.le_refl _) _ : Below (w.alloc (.cells #[.slice A1 m.P.length c1, .slice A2 m.L.length c2, .int .i64 m.nx] 54)).heap.size (w.alloc (.cells #[.slice A1 m.P.length c1, .slice A2 m.L.length c2, .int .i64 m.nx] 54)) _).block _ (by simp)).trans (MapKept.heap_alloc w _).1
  have hx1 : wi.heap[w.heap.size + 1]? = some (.cells #[.slice A3 m.P.length c3, .slice A4 m.L.length c4, .int .i64 m.nx] 54 (0, 0)) := by
    rw [hwi]
    have := (MapKept.heap_alloc (w.alloc (.cells #[.slice A1 m.P.length c1, .slice A2 m.L.length c2, .int .i64 m.nx] 54)) (.cells #[.slice A3 m.P.length c3, .slice A4 m.L.length c4, .int .i64 m.nx] 54)).1
    rwa [World.size_alloc] at this
  have q0 := cell_of_row wi _ 0 _ _ _ hx0
  have q1 := cell_of_row wi _ 1 _ _ _ hx0
  have q2 := cell_of_row wi _ 2 _ _ _ hx0
  have p0 := cell_of_row wi _ 0 _ _ _ hx1
  have p1 := cell_of_row wi _ 1 _ _ _ hx1
  have p2 := cell_of_row wi _ 2 _ _ _ hx1
  have HP := hid hp
  have HP' := hid hp'
  have HSA := hid (Q.same_any (w := wi) A2 A4 m.L c2 c4 w.heap.size (hu.below hb2) (hu'.below hb2) (by omega))
  have HB := hid hb2
  have HX0 := hid hx0
  have HX1 := hid hx1
  have HWI := hid hwi
  rw [hwi] at q0 q1 q2 p0 p1 p2
  have dn : (m.nx != m.nx) = false := by simp
  have dl : ((m.P.length : Int) != (m.P.length : Int)) = false := by simp
  clear hp hp' hu hu' hx0 hx1 hb1 hb2 hwi
  go_enter Tryz.func12, Tryz.ntmps12
  go_wp2_with fail
  rw [← HWI.out]
  refine HSA.out.mono ?_
  rintro e w2 ⟨rfl, nq, rfl⟩
  rw [← HWI.out] at q0 q1 q2 p0 p1 p2
  have d0 : (wi.drewN nq).cell? ⟨w.heap.size, 0, none⟩ = some (.slice A1 m.P.length c1) := q0
  have d1 : (wi.drewN nq).cell? ⟨w.heap.size, 1, none⟩ = some (.slice A2 m.L.length c2) := q1
  have d2 : (wi.drewN nq).cell? ⟨w.heap.size, 2, none⟩ = some (.int .i64 m.nx) := q2
  have e0 : (wi.drewN nq).cell? ⟨w.heap.size + 1, 0, none⟩ = some (.slice A3 m.P.length c3) := p0
  have e1 : (wi.drewN nq).cell? ⟨w.heap.size + 1, 1, none⟩ = some (.slice A4 m.L.length c4) := p1
  have e2 : (wi.drewN nq).cell? ⟨w.heap.size + 1, 2, none⟩ = some (.int .i64 m.nx) := p2
  have HBZ := hid (HB.out.trans ((Q.bdN wi nq).mono HB.out.size))
  have D0 := hid d0
  have E0 := hid e0
  clear q0 q1 q2 p0 p1 p2 HSA HWI
  generalize wi.drewN nq = wz at *
  clear HB HX0 HX1
  generalize w.heap.size + 1 = b1 at *
  obtain ⟨b0, hb0⟩ : ∃ b0, b0 = w.heap.size := ⟨_, rfl⟩
  rw [← hb0] at d0 d1 d2 D0 ⊢
  clear hb0
  go_wp2_with fail
  go_loopg [5] (m.P.length + 1) (fun g v wr => ∃ i : Nat, v = .int .i64 i ∧ i ≤ m.P.length ∧ g = m.P.length + 1 - i ∧ ∃ q, wr = wz.drewN q)
  case atStart => exact ⟨0, rfl, Nat.zero_le _, rfl, 0, rfl⟩
  case round =>
    obtain ⟨i, rfl, hi, hm, q, hq⟩ := hrel
    have HM := hid hm
    have HQ := hid hq
    have f0 : wr.cell? ⟨b0, 0, none⟩ = some (.slice A1 m.P.length c1) := by rw [hq]; exact D0.out
    have g0 : wr.cell? ⟨b1, 0, none⟩ = some (.slice A3 m.P.length c3) := by rw [hq]; exact E0.out
    have hbr : Below w.heap.size w wr := by rw [hq]; exact HBZ.out.trans ((Q.bdN wz q).mono HBZ.out.size)
    have HBR := hid hbr
    clear hm hq hbr d0 d1 d2 e0 e1 e2
    by_cases h1 : i < m.P.length
    · obtain ⟨x, hx⟩ : ∃ x, m.P[i]? = some x := ⟨_, List.getElem?_eq_getElem h1⟩
      obtain ⟨b', off, rfl, hbb, hcc⟩ := (HP.out.below HBR.out) i x hx
      obtain ⟨b2, off2, rfl, hbb2, hcc2⟩ := (HP'.out.below HBR.out) i x hx
      have k0 : wr.cell? ⟨b', off + i * 2, none⟩ = some (.int .i64 x.1) := hcc 0 _ rfl
      have k1 : wr.cell? ⟨b', off + i * 2 + 1, none⟩ = some (.int .u64 x.2) := hcc 1 _ rfl
      have l0 : wr.cell? ⟨b2, off2 + i * 2, none⟩ = some (.int .i64 x.1) := hcc2 0 _ rfl
      have l1 : wr.cell? ⟨b2, off2 + i * 2 + 1, none⟩ = some (.int .u64 x.2) := hcc2 1 _ rfl
      clear hcc hcc2 hx
      go_wp2_with fail
      go_quiet (fail)
      go_wp2_with fail
      go_roundg (m.P.length + 1 - (i + 1))
      case measure => rw [HM.out]; omega
      case rel => exact ⟨i + 1, by go_num, by omega, rfl, _, by rw [HQ.out]; exact Q.drewN_two _ _ _⟩
    · go_wp2_with fail
      go_ret
      exact ⟨rfl, HBR.out⟩
end Go.Proofs.YtdejbinmnoabeaaGreat
